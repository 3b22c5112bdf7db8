/- Plain laws: arcs, cells, libraries. -/
import Derived.Test.YtbpmddedhekleaaGreatDoorB4
namespace Go.Fw
open Go
set_option maxRecDepth 100000

theorem idx_gi {α : Type} [Inhabited α] {xs : List α} {x : Int} (h0 : 0 ≤ x) (h1 : x < xs.length) : idx xs x = some (gt xs x.toNat) := by
  have := idx_gt (xs := xs) (j := x.toNat) (by omega)
  rwa [← nat_of h0] at this
theorem cntP_mono {q : Nat → Bool} {m n : Nat} (h : m ≤ n) : cntP q m ≤ cntP q n := by
  induction n with
  | zero => obtain rfl : m = 0 := by omega
            exact Nat.le_refl _
  | succ n ih =>
    rcases Nat.lt_or_eq_of_le h with h | rfl
    · exact Nat.le_trans (ih (by omega)) (Nat.le_add_right _ _)
    · exact Nat.le_refl _
theorem le_natB {m k : Nat} : decide ((m : Int) ≤ (k : Int)) = decide (m ≤ k) := by rw [Bool.eq_iff_iff]; simp
theorem cntP_two {q : Nat → Bool} {n i j : Nat} (hi : i < j) (hj : j < n) (h1 : q i = true) (h2 : q j = true) : 2 ≤ cntP q n := by
  have e1 : cntP q (i + 1) = cntP q i + 1 := by rw [cntP, h1]; rfl
  have e2 : cntP q (j + 1) = cntP q j + 1 := by rw [cntP, h2]; rfl
  have m1 := cntP_mono (q := q) (show i + 1 ≤ j by omega)
  have m2 := cntP_mono (q := q) (show j + 1 ≤ n by omega)
  omega
theorem cntP_one {q : Nat → Bool} {n i j : Nat} (hn : cntP q n ≤ 1) (hi : i < n) (hj : j < n) (h1 : q i = true) (h2 : q j = true) : i = j := by
  rcases Nat.lt_trichotomy i j with h | h | h
  · have := cntP_two h hj h1 h2; omega
  · exact h
  · have := cntP_two h hi h2 h1; omega

/-! ### Arcs -/

def clkIx (ps : List TPin) : Int := ixL (fun p => p.Clock) ps
def clkAt (ps : List TPin) (x : Int) : Bool := (gt ps x.toNat).Clock

theorem clock_ev {c : TCell} (hl : c.Pins.length ≤ 1048576) : Ev (fun n => impl_Cell_clock n c) (clkIx c.Pins) := by
  unfold impl_Cell_clock
  refine Ev.bind (b := clkIx c.Pins) ?_ .done
  exact index_ev (fin := (c.Pins.length : Int)) (Lf := slices_IndexFunc_impl_Pin_impl_Cell_clock_1_L1 c.Pins) (pf := fun n x => impl_Cell_clock_1 n x) (fun _ _ => .done)
    (fun n => by simp only [slices_IndexFunc_impl_Pin_impl_Cell_clock_1_L1, lt_nat_f (Nat.le_refl _), cond_false])
    (fun n j x hx => by
      have hj := (List.getElem?_eq_some_iff.1 hx).1
      simp only [slices_IndexFunc_impl_Pin_impl_Cell_clock_1_L1, lt_nat_t hj, cond_true, idx_at hx, Option.bind_some, w64_succ (show j < 9223372036854775807 by omega)])
    (fun n => by unfold slices_IndexFunc_impl_Pin_impl_Cell_clock_1; congr 1; funext o; cases o <;> rfl)

def arcI (ps : List TPin) (a : TArc) : Bool :=
  bif (a.Kind == 4) || (a.Kind == 5) then
    (a.Sense == 0) && (((a.Slew.length : Int) == 0) && (tablesB a.Delay false && ((a.From == clkIx ps) && (decide (a.From ≥ 0) && (inI a.To 0 (ps.length - 2) && !(a.To == a.From))))))
  else
    (tablesB a.Delay true && (tablesB a.Slew true && ((a.To == (ps.length : Int) - 1) && inI a.From 0 (ps.length - 2)))) &&
      (bif a.Kind == 1 then !clkAt ps a.From && inI a.Sense 1 3 else (bif (a.Kind == 2) || (a.Kind == 3) then clkAt ps a.From && (a.Sense == 0) else false))

def arcS (ps : List TPin) (a : TArc) : Bool :=
  (inI a.From 0 (ps.length - 2) && inI a.To 0 (ps.length - 1)) &&
    (bif a.Kind == 1 then !clkAt ps a.From && ((a.To == (ps.length : Int) - 1) && (inI a.Sense 1 3 && (tablesB a.Delay true && tablesB a.Slew true)))
     else (bif (a.Kind == 2) || (a.Kind == 3) then clkAt ps a.From && ((a.To == (ps.length : Int) - 1) && ((a.Sense == 0) && (tablesB a.Delay true && tablesB a.Slew true)))
     else (bif (a.Kind == 4) || (a.Kind == 5) then clkAt ps a.From && (decide (a.To < (ps.length : Int) - 1) && (!clkAt ps a.To && ((a.Sense == 0) && (tablesB a.Delay false && ((a.Slew.length : Int) == 0))))) else false)))

theorem bif_self_or {c d : Bool} : (bif c then some c else some d) = some (c || d) := by cases c <;> rfl
theorem bif_true_or {c d : Bool} : (bif c then some true else some d) = some (c || d) := by cases c <;> rfl

theorem isCheck_eq {n : Nat} {k : Int} : impl_isCheck n k = some ((k == 4) || (k == 5)) := by simp only [impl_isCheck, bif_true_or]
theorem isArc_ev {c : TCell} {a : TArc} (h : okL ok_Pin c.Pins) (ha : ok_Arc a) (hm : 2 ≤ c.Pins.length) : Ev (fun n => impl_Cell_isArc n c a) (arcI c.Pins a) := by
  have hl := h.len
  have e1 : W64 ((c.Pins.length : Int) - 1) = (c.Pins.length : Int) - 1 := w64_pred (by omega)
  have e2 : W64 ((c.Pins.length : Int) - 1 - 1) = (c.Pins.length : Int) - 2 := by rw [w64_of (by omega) (by omega)]; omega
  simp only [impl_Cell_isArc, isCheck_eq, Option.bind_some, impl_Cell_isInput, impl_Cell_output, impl_length_impl_Pin, e1, e2, within_eq, bif_self_or, bne]
  unfold arcI
  refine Ev.iff (fun _ => Ev.last ?_) (fun _ => Ev.guardB ?_ (fun hb => ?_))
  · exact Ev.andP fun _ => Ev.andP fun _ => Ev.and (areTables_ev ha.Delay) fun _ => Ev.bind (clock_ev hl) (Ev.andP fun _ => Ev.andP fun _ => Ev.andP fun _ => .done)
  · refine Ev.or (areTables_ev ha.Delay) fun _ => Ev.or (areTables_ev ha.Slew) fun _ => ?_
    simp only [bnot_bif]
    exact Ev.orBP fun _ => .done
  · have hf : 0 ≤ a.From ∧ a.From ≤ (c.Pins.length : Int) - 2 := by
      simp only [Bool.and_eq_true, inI_iff] at hb
      exact hb.2.2.2
    simp only [idx_gi hf.1 (show a.From < (c.Pins.length : Int) by omega), Option.bind_some]
    exact Ev.iff (fun _ => Ev.andP fun _ => .done) (fun _ => Ev.iff (fun _ => Ev.andP fun _ => .done) (fun _ => .done))

theorem l03Arc_ev {c : TCell} {a : TArc} (h : okL ok_Pin c.Pins) (ha : ok_Arc a) (hm : 2 ≤ c.Pins.length) : Ev (fun n => spec_l03Arc n c a) (arcS c.Pins a) := by
  have hl := h.len
  have e1 : W64 ((c.Pins.length : Int) - 1) = (c.Pins.length : Int) - 1 := w64_pred (by omega)
  have e2 : W64 ((c.Pins.length : Int) - 1 - 1) = (c.Pins.length : Int) - 2 := by rw [w64_of (by omega) (by omega)]; omega
  simp only [spec_l03Arc, Option.bind_some, e1, e2, l01In_eq, bif_self_or]
  unfold arcS
  refine Ev.guardB ?_ (fun hb => ?_)
  · simp only [bnot_bif]
    exact Ev.orBP fun _ => .done
  · have hf : (0 ≤ a.From ∧ a.From ≤ (c.Pins.length : Int) - 2) ∧ (0 ≤ a.To ∧ a.To ≤ (c.Pins.length : Int) - 1) := by
      simp only [Bool.and_eq_true, inI_iff] at hb
      exact hb
    simp only [idx_gi hf.1.1 (show a.From < (c.Pins.length : Int) by omega), idx_gi hf.2.1 (show a.To < (c.Pins.length : Int) by omega), Option.bind_some]
    refine Ev.iff (fun _ => ?_) (fun _ => Ev.iff (fun _ => ?_) (fun _ => Ev.iff (fun _ => ?_) (fun _ => .done)))
    · exact Ev.andP fun _ => Ev.andP fun _ => Ev.andP fun _ => Ev.and (l03Tables_ev ha.Delay) fun _ => Ev.last (l03Tables_ev ha.Slew)
    · exact Ev.andP fun _ => Ev.andP fun _ => Ev.andP fun _ => Ev.and (l03Tables_ev ha.Delay) fun _ => Ev.last (l03Tables_ev ha.Slew)
    · exact Ev.andP fun _ => Ev.andP fun _ => Ev.andP fun _ => Ev.andP fun _ => Ev.and (l03Tables_ev ha.Delay) fun _ => .done

/-- The place of the clock, where there is one at most. -/
theorem clkIx_iff {ps : List TPin} (h1 : clkN ps ps.length ≤ 1) {x : Int} (hx : 0 ≤ x) : clkIx ps = x ↔ x < ps.length ∧ clkAt ps x = true := by
  unfold clkIx ixL
  cases hf : ps.findIdx? (fun p => p.Clock) with
  | some j =>
    obtain ⟨hj, hp, _⟩ := List.findIdx?_eq_some_iff_getElem.1 hf
    have hpj : (gt ps j).Clock = true := by rw [gt_eq hj]; exact hp
    constructor
    · intro e
      have e : (j : Int) = x := e
      subst e
      exact ⟨by omega, by unfold clkAt; rw [Int.toNat_natCast]; exact hpj⟩
    · rintro ⟨hl, hc⟩
      have := cntP_one h1 hj (show x.toNat < ps.length by omega) hpj hc
      show (j : Int) = x
      omega
  | none =>
    have hn := List.findIdx?_eq_none_iff.1 hf
    constructor
    · intro e
      have e : (-1 : Int) = x := e
      omega
    · rintro ⟨hl, hc⟩
      have hxl : x.toNat < ps.length := by omega
      unfold clkAt at hc
      rw [gt_eq hxl] at hc
      have := hn _ (List.getElem_mem hxl)
      rw [hc] at this
      exact absurd this (by decide)

theorem pinsB_last {ps : List TPin} (h : pinsB ps = true) : (2 ≤ ps.length ∧ ps.length ≤ 5) ∧ clkAt ps ((ps.length : Int) - 1) = false := by
  unfold pinsB lenB at h
  simp only [Bool.and_eq_true, decide_eq_true_eq] at h
  refine ⟨h.2.1, ?_⟩
  have h1 := allN_iff.1 h.1 (ps.length - 1) (by omega)
  unfold pinB at h1
  rw [show decide (ps.length - 1 + 1 = ps.length) = true by simp; omega] at h1
  simp only [cond_true, Bool.and_eq_true, Bool.not_eq_true'] at h1
  unfold clkAt
  rw [show ((ps.length : Int) - 1).toNat = ps.length - 1 by omega]
  exact h1.2.2

theorem arc_eq {ps : List TPin} {a : TArc} (h : pinsB ps = true) (h1 : clkN ps ps.length ≤ 1) : arcI ps a = arcS ps a := by
  obtain ⟨⟨hm, hm5⟩, hlast⟩ := pinsB_last h
  rw [Bool.eq_iff_iff]
  unfold arcI arcS
  cases h45 : ((a.Kind == 4) || (a.Kind == 5)) with
  | true =>
    have k1 : (a.Kind == 1) = false := by simp at h45 ⊢; omega
    have k23 : ((a.Kind == 2) || (a.Kind == 3)) = false := by simp at h45 ⊢; omega
    rw [k1, k23]
    simp only [cond_true, cond_false, Bool.and_eq_true, inI_iff, decide_eq_true_eq, beq_iff_eq, Bool.not_eq_true', beq_eq_false_iff_ne, ne_eq]
    constructor
    · rintro ⟨hs, hsl, hd, hf, hf0, ht, hne⟩
      obtain ⟨hl, hc⟩ := (clkIx_iff h1 hf0).1 hf.symm
      have hfl : a.From ≠ (ps.length : Int) - 1 := by intro e; rw [e, hlast] at hc; cases hc
      refine ⟨⟨⟨hf0, by omega⟩, ⟨ht.1, by omega⟩⟩, hc, by omega, ?_, hs, hd, hsl⟩
      cases hct : clkAt ps a.To with
      | false => rfl
      | true =>
        have := (clkIx_iff h1 ht.1).2 ⟨by omega, hct⟩
        omega
    · rintro ⟨⟨hf, ht⟩, hc, hlt, hct, hs, hd, hsl⟩
      have := (clkIx_iff h1 hf.1).2 ⟨by omega, hc⟩
      refine ⟨hs, hsl, hd, this.symm, hf.1, ⟨ht.1, by omega⟩, ?_⟩
      intro e
      rw [e, hc] at hct
      cases hct
  | false =>
    simp only [cond_false, Bool.and_eq_true, inI_iff, beq_iff_eq]
    cases (a.Kind == 1)
    · cases ((a.Kind == 2) || (a.Kind == 3))
      · simp
      · simp only [cond_true, cond_false, Bool.and_eq_true, beq_iff_eq]
        constructor
        · rintro ⟨⟨h1, h2, h3, h4⟩, h5, h6⟩
          exact ⟨⟨h4, by omega⟩, h5, h3, h6, h1, h2⟩
        · rintro ⟨⟨h4, h7⟩, h5, h3, h6, h1, h2⟩
          exact ⟨⟨h1, h2, h3, h4⟩, h5, h6⟩
    · simp only [cond_true, Bool.and_eq_true, inI_iff, Bool.not_eq_true', beq_iff_eq]
      constructor
      · rintro ⟨⟨h1, h2, h3, h4⟩, h5, h6⟩
        exact ⟨⟨h4, by omega⟩, h5, h3, h6, h1, h2⟩
      · rintro ⟨⟨h4, h7⟩, h5, h3, h6, h1, h2⟩
        exact ⟨⟨h1, h2, h3, h4⟩, h5, h6⟩

theorem arcS_kind {ps : List TPin} {a : TArc} (h : arcS ps a = true) : 1 ≤ a.Kind ∧ a.Kind ≤ 5 := by
  unfold arcS at h
  rw [Bool.and_eq_true] at h
  have h := h.2
  cases h1 : (a.Kind == 1)
  · cases h2 : ((a.Kind == 2) || (a.Kind == 3))
    · cases h4 : ((a.Kind == 4) || (a.Kind == 5))
      · rw [h1, h2, h4] at h; cases h
      · simp at h4; omega
    · simp at h2; omega
  · simp at h1; omega

def sameArc (x y : TArc) : Bool := (x.Kind == y.Kind) && ((x.From == y.From) && (x.To == y.To))
def newArc (ar : List TArc) (j : Nat) : Bool := allN (fun i => !sameArc (gt ar i) (gt ar j)) j

theorem areArcs_ev {c : TCell} (h : okL ok_Pin c.Pins) (ha : okL ok_Arc c.Arcs) (hm : 2 ≤ c.Pins.length) : Ev (fun n => impl_Cell_areArcs n c) (allN (fun j => arcI c.Pins (gt c.Arcs j) && newArc c.Arcs j) c.Arcs.length && decide (c.Arcs.length ≤ 8)) := by
  have hl := ha.len
  have h1 : ∀ (ar : List TArc) (y : TArc), ar.length ≤ 1048576 → Ev (fun n => slices_ContainsFunc_impl_Arc_impl_Cell_areArcs_1 n ar y) (ar.any fun x => sameArc x y) := by
    intro ar y hl
    unfold slices_ContainsFunc_impl_Arc_impl_Cell_areArcs_1
    refine Ev.bind (b := ixL (fun x => sameArc x y) ar) (index_ev (fin := (ar.length : Int)) (Lf := slices_IndexFunc_impl_Arc_impl_Cell_areArcs_1_L1 ar y) (pf := fun n x => impl_Cell_areArcs_1 n x y) (fun x _ => ?_)
      (fun n => by simp only [slices_IndexFunc_impl_Arc_impl_Cell_areArcs_1_L1, lt_nat_f (Nat.le_refl _), cond_false])
      (fun n j x hx => by
        have hj := (List.getElem?_eq_some_iff.1 hx).1
        simp only [slices_IndexFunc_impl_Arc_impl_Cell_areArcs_1_L1, lt_nat_t hj, cond_true, idx_at hx, Option.bind_some, w64_succ (show j < 9223372036854775807 by omega)])
      (fun n => by unfold slices_IndexFunc_impl_Arc_impl_Cell_areArcs_1; congr 1; funext o; cases o <;> rfl)) (Ev.now (by rw [ixL_ge]))
    unfold impl_Cell_areArcs_1 sameArc
    exact Ev.andP fun _ => Ev.andP fun _ => .done
  have hL : Ev (fun n => impl_Cell_areArcs_L1 c n 0) (bif allN (fun j => arcI c.Pins (gt c.Arcs j) && newArc c.Arcs j) c.Arcs.length then .nxt (c.Arcs.length : Int) else .ret false) := by
    refine ev_all ?_ (fun j hj X hX => Ev.succ ?_)
    · exact Ev.succ (by simp only [impl_Cell_areArcs_L1, lt_nat_f (Nat.le_refl _), cond_false]; exact .done)
    · simp only [impl_Cell_areArcs_L1, lt_nat_t hj, cond_true, idx_gt hj, Option.bind_some, subS_take (Nat.le_of_lt hj), w64_succ (show j < 9223372036854775807 by omega)]
      refine Ev.chk (isArc_ev h (gt_ok ha hj) hm) fun _ => Ev.chkT1 ?_ (fun _ => hX)
      refine (h1 _ _ (by simp; omega)).cast ?_
      rw [any_take (Nat.le_of_lt hj)]; rfl
  unfold impl_Cell_areArcs
  refine Ev.bind hL ?_
  cases allN (fun j => arcI c.Pins (gt c.Arcs j) && newArc c.Arcs j) c.Arcs.length
  · exact .done
  · refine Ev.now ?_
    show some (decide ((c.Arcs.length : Int) ≤ ((8 : Nat) : Int))) = some (true && decide (c.Arcs.length ≤ 8))
    rw [le_natB, Bool.true_and]

def hasB (ar : List TArc) (k : Int) : Bool := ar.any fun a => a.Kind == k
theorem has_ev {c : TCell} {k : Int} (hl : c.Arcs.length ≤ 1048576) : Ev (fun n => impl_Cell_has n c k) (hasB c.Arcs k) := by
  unfold impl_Cell_has slices_ContainsFunc_impl_Arc_impl_Cell_has_1
  exact Ev.last (Ev.bind (b := ixL (fun x => x.Kind == k) c.Arcs) (index_ev (fin := (c.Arcs.length : Int)) (Lf := slices_IndexFunc_impl_Arc_impl_Cell_has_1_L1 c.Arcs k) (pf := fun n x => impl_Cell_has_1 n x k) (fun x _ => .done)
      (fun n => by simp only [slices_IndexFunc_impl_Arc_impl_Cell_has_1_L1, lt_nat_f (Nat.le_refl _), cond_false])
      (fun n j x hx => by
        have hj := (List.getElem?_eq_some_iff.1 hx).1
        simp only [slices_IndexFunc_impl_Arc_impl_Cell_has_1_L1, lt_nat_t hj, cond_true, idx_at hx, Option.bind_some, w64_succ (show j < 9223372036854775807 by omega)])
      (fun n => by unfold slices_IndexFunc_impl_Arc_impl_Cell_has_1; congr 1; funext o; cases o <;> rfl)) (Ev.now (by rw [ixL_ge]; rfl)))

def kindN (ar : List TArc) (k : Nat) (j : Nat) : Nat := cntP (fun i => (gt ar i).Kind == (k : Int)) j
theorem kindN_pos {ar : List TArc} {k : Nat} : decide (((kindN ar k ar.length : Nat) : Int) > 0) = hasB ar k := by
  rw [show decide (((kindN ar k ar.length : Nat) : Int) > 0) = decide (0 < kindN ar k ar.length) by simp]
  unfold kindN hasB
  rw [cntP_pos, any_gt]
theorem kindN_zero {ar : List TArc} {k : Nat} : (((kindN ar k ar.length : Nat) : Int) == 0) = !hasB ar k := by
  rw [← kindN_pos, Bool.eq_iff_iff]; simp

theorem l03Kinds_ev {c : TCell} (ha : okL ok_Arc c.Arcs) (hk : ∀ j, j < c.Arcs.length → 1 ≤ (gt c.Arcs j).Kind ∧ (gt c.Arcs j).Kind ≤ 5) : Ev (fun n => spec_l03Kinds n c) (vecC (fun k => kindN c.Arcs k c.Arcs.length) 6) := by
  have hl := ha.len
  have hL : Ev (fun n => spec_l03Kinds_L1 c n (vecC (fun _ => 0) 6) 0) (vecC (fun k => kindN c.Arcs k c.Arcs.length) 6, (c.Arcs.length : Int)) := by
    refine loopF (Lf := spec_l03Kinds_L1 c) (S := fun j => vecC (fun k => kindN c.Arcs k j) 6) (len := c.Arcs.length) (fun n => ?_) (fun j hj X hX => ?_)
    · simp only [spec_l03Kinds_L1, lt_nat_f (Nat.le_refl _), cond_false]
    · obtain ⟨k1, k5⟩ := hk j hj
      have ek : (gt c.Arcs j).Kind = (((gt c.Arcs j).Kind.toNat : Nat) : Int) := nat_of (by omega)
      have hc : kindN c.Arcs (gt c.Arcs j).Kind.toNat j ≤ j := cntP_le
      simp only [spec_l03Kinds_L1, lt_nat_t hj, cond_true, idx_gt hj, Option.bind_some, w64_succ (show j < 9223372036854775807 by omega)]
      rw [ek, vecC_idx (show (gt c.Arcs j).Kind.toNat < 6 by omega)]
      simp only [Option.bind_some]
      rw [vecC_bump (c := fun k => kindN c.Arcs k j) (by show kindN c.Arcs _ j < _; omega)]
      have : vecC (fun i => kindN c.Arcs i j + (bif decide ((gt c.Arcs j).Kind.toNat = i) then 1 else 0)) 6 = vecC (fun k => kindN c.Arcs k (j + 1)) 6 := by
        refine vecC_congr (fun k _ => ?_)
        show _ = kindN c.Arcs k j + (bif (gt c.Arcs j).Kind == (k : Int) then 1 else 0)
        congr 2
        rw [Bool.eq_iff_iff]; simp; omega
      rw [this]
      exact hX
  unfold spec_l03Kinds
  rw [show mkS 6 (0 : Int) = some (vecC (fun _ => 0) 6) from vecC_zero (m := 6) (by omega)]
  simp only [Option.bind_some]
  exact Ev.bind hL .done

/-! ### Cells -/

def kindB (c : TCell) : Bool :=
  bif c.Kind == 1 then (((clkN c.Pins c.Pins.length : Nat) : Int) == 0) && (((c.Truth.length : Int) == ((2 ^ (c.Pins.length - 1) : Nat) : Int)) && (c.Truth.all fun x => inI x 0 1))
  else bif c.Kind == 2 then (((clkN c.Pins c.Pins.length : Nat) : Int) == 1) && (((c.Truth.length : Int) == 0) && (!hasB c.Arcs 1 && !(hasB c.Arcs 2 == hasB c.Arcs 3)))
  else bif c.Kind == 3 then (((clkN c.Pins c.Pins.length : Nat) : Int) == 1) && (((c.Truth.length : Int) == 0) && (hasB c.Arcs 1 && (hasB c.Arcs 2 && !hasB c.Arcs 3)))
  else false

theorem kindB_clk {c : TCell} (h : kindB c = true) : clkN c.Pins c.Pins.length ≤ 1 := by
  unfold kindB at h
  cases h1 : (c.Kind == 1)
  · cases h2 : (c.Kind == 2)
    · cases h3 : (c.Kind == 3)
      · rw [h1, h2, h3] at h; cases h
      · rw [h1, h2, h3] at h
        simp only [cond_true, cond_false, Bool.and_eq_true, beq_iff_eq] at h
        omega
    · rw [h1, h2] at h
      simp only [cond_true, cond_false, Bool.and_eq_true, beq_iff_eq] at h
      omega
  · rw [h1] at h
    simp only [cond_true, Bool.and_eq_true, beq_iff_eq] at h
    omega

theorem shl_pins {m : Nat} (h1 : 2 ≤ m) (h2 : m ≤ 5) : shlS 1 (W64 ((m : Int) - 1)) = some ((2 ^ (m - 1) : Nat) : Int) ∧ shlS 1 (IntKind.wrap .u64 (W64 ((m : Int) - 1))) = some ((2 ^ (m - 1) : Nat) : Int) := by
  have : m = 2 ∨ m = 3 ∨ m = 4 ∨ m = 5 := by omega
  rcases this with rfl | rfl | rfl | rfl <;> exact ⟨by decide, by decide⟩

theorem isOfKind_ev {c : TCell} (hc : ok_Cell c) (hm : 2 ≤ c.Pins.length) (hm5 : c.Pins.length ≤ 5) : Ev (fun n => impl_Cell_isOfKind n c) (kindB c) := by
  have hl := hc.Pins.len
  have hL : Ev (fun n => impl_Cell_isOfKind_L1 c n 0 0) (((clkN c.Pins c.Pins.length : Nat) : Int), (c.Pins.length : Int)) := by
    refine loopF (Lf := impl_Cell_isOfKind_L1 c) (S := fun j => ((clkN c.Pins j : Nat) : Int)) (len := c.Pins.length) (fun n => ?_) (fun j hj X hX => ?_)
    · simp only [impl_Cell_isOfKind_L1, lt_nat_f (Nat.le_refl _), cond_false]
    · have hn : clkN c.Pins j ≤ j := cntP_le
      simp only [impl_Cell_isOfKind_L1, lt_nat_t hj, cond_true, idx_gt hj, Option.bind_some, w64_succ (show j < 9223372036854775807 by omega), w64_succ (show clkN c.Pins j < 9223372036854775807 by omega)]
      have hck : clkN c.Pins (j + 1) = clkN c.Pins j + (bif (gt c.Pins j).Clock then 1 else 0) := rfl
      rw [hck] at hX
      cases hc : (gt c.Pins j).Clock
      · rw [hc] at hX; exact Ev.ff rfl hX
      · rw [hc] at hX; exact Ev.tt rfl hX
  unfold impl_Cell_isOfKind kindB
  refine Ev.bind hL ?_
  simp only [impl_Cell_output, impl_length_impl_Pin, Option.bind_some, (shl_pins hm hm5).1]
  have hal := hc.Arcs.len
  refine Ev.iff (fun _ => ?_) (fun _ => Ev.iff (fun _ => ?_) (fun _ => Ev.iff (fun _ => ?_) (fun _ => .done)))
  · exact Ev.andP fun _ => Ev.andP fun _ => Ev.last (areWithin_ev hc.Truth.len)
  · exact Ev.andP fun _ => Ev.andP fun _ => Ev.bind (has_ev hal) (Ev.andP fun _ => Ev.bind (has_ev hal) (Ev.bind (has_ev hal) .done))
  · exact Ev.andP fun _ => Ev.andP fun _ => Ev.and (has_ev hal) fun _ => Ev.and (has_ev hal) fun _ => Ev.bind (has_ev hal) .done

def cellB (c : TCell) : Bool :=
  nameB c.Name && (pinsB c.Pins && ((allN (fun j => arcI c.Pins (gt c.Arcs j) && newArc c.Arcs j) c.Arcs.length && decide (c.Arcs.length ≤ 8)) && (inI c.Leak 0 100000 && (inI c.Energy 0 100000 && kindB c))))

theorem IsCell_ev {c : TCell} (hc : ok_Cell c) : Ev (fun n => impl_IsCell n c) (cellB c) := by
  simp only [impl_IsCell, isName_eq hc.Name, within_eq, Option.bind_some]
  unfold cellB
  refine Ev.andP fun _ => Ev.and (arePins_ev hc.Pins) fun hp => ?_
  obtain ⟨⟨hm, hm5⟩, _⟩ := pinsB_last hp
  exact Ev.and (areArcs_ev hc.Pins hc.Arcs hm) fun _ => Ev.andP fun _ => Ev.andP fun _ => Ev.last (isOfKind_ev hc hm hm5)

theorem sIsCell_ev {c : TCell} (hc : ok_Cell c) : Ev (fun n => spec_IsCell n c) (cellB c) := by
  have hal := hc.Arcs.len
  have htl := hc.Truth.len
  have e : cellB c = ((pinsB c.Pins && (nameB c.Name && (decide (c.Arcs.length ≤ 8) && (inI c.Leak 0 100000 && inI c.Energy 0 100000)))) && (allN (fun j => arcS c.Pins (gt c.Arcs j) && newArc c.Arcs j) c.Arcs.length && kindB c)) := by
    unfold cellB
    cases hk : kindB c
    · simp
    · cases hp : pinsB c.Pins
      · simp
      · rw [allN_congr (fun j _ => by rw [arc_eq hp (kindB_clk hk)])]
        cases nameB c.Name <;> cases allN (fun j => arcS c.Pins (gt c.Arcs j) && newArc c.Arcs j) c.Arcs.length <;> cases decide (c.Arcs.length ≤ 8) <;> cases inI c.Leak 0 100000 <;> cases inI c.Energy 0 100000 <;> rfl
  rw [e]
  unfold spec_IsCell
  refine Ev.bind (l03Pins_ev hc.Pins) ?_
  cases hp : pinsB c.Pins
  · exact .done
  · obtain ⟨⟨hm, hm5⟩, _⟩ := pinsB_last hp
    simp only [cond_true, Bool.true_and, Bool.not_true, cond_false]
    refine Ev.guardB ?_ (fun _ => ?_)
    · simp only [l01In_eq, Option.bind_some, bnot_bif]
      refine Ev.orB (l03Name_ev hc.Name) fun _ => ?_
      rw [show decide ((c.Arcs.length : Int) > 8) = !decide (c.Arcs.length ≤ 8) by rw [Bool.eq_iff_iff]; simp; omega, bnot_bif]
      exact Ev.orBP fun _ => Ev.orBP fun _ => .done
    · have hL2 : ∀ j, j < c.Arcs.length → Ev (fun n => spec_IsCell_L2 c (j : Int) (gt c.Arcs j) n 0) (bif newArc c.Arcs j then .nxt (j : Int) else .ret false) := by
        intro j hj
        refine ev_all ?_ (fun i hi X hX => Ev.succ ?_)
        · exact Ev.succ (by simp only [spec_IsCell_L2, lt_nat_f (Nat.le_refl _), cond_false]; exact .done)
        · simp only [spec_IsCell_L2, lt_nat_t hi, cond_true, idx_gt (show i < c.Arcs.length by omega), Option.bind_some, w64_succ (show i < 9223372036854775807 by omega)]
          unfold sameArc
          cases ((gt c.Arcs i).Kind == (gt c.Arcs j).Kind)
          · exact hX
          · cases ((gt c.Arcs i).From == (gt c.Arcs j).From)
            · exact hX
            · cases ((gt c.Arcs i).To == (gt c.Arcs j).To)
              · exact hX
              · exact .done
      have hL1 : Ev (fun n => spec_IsCell_L1 c n 0) (bif allN (fun j => arcS c.Pins (gt c.Arcs j) && newArc c.Arcs j) c.Arcs.length then .nxt (c.Arcs.length : Int) else .ret false) := by
        refine ev_all ?_ (fun j hj X hX => Ev.succ ?_)
        · exact Ev.succ (by simp only [spec_IsCell_L1, lt_nat_f (Nat.le_refl _), cond_false]; exact .done)
        · simp only [spec_IsCell_L1, lt_nat_t hj, cond_true, idx_gt hj, Option.bind_some, w64_succ (show j < 9223372036854775807 by omega)]
          refine Ev.chk (l03Arc_ev hc.Pins (gt_ok hc.Arcs hj) hm) fun _ => Ev.bind (hL2 j hj) ?_
          cases newArc c.Arcs j
          · exact .done
          · exact hX
      have hL3 : Ev (fun n => spec_IsCell_L3 c n 0) (bif (c.Truth.all fun x => inI x 0 1) then .nxt (c.Truth.length : Int) else .ret false) :=
        all_loop (fun n => by simp only [spec_IsCell_L3, lt_nat_f (Nat.le_refl _), cond_false]) (fun j hj X hX => by
          simp only [spec_IsCell_L3, lt_nat_t hj, cond_true, idx_lt hj, Option.bind_some, l01In_eq, w64_succ (show j < 9223372036854775807 by omega), bnot_bif]
          exact Ev.okP1 fun _ => hX)
      refine Ev.bind hL1 ?_
      cases hA : allN (fun j => arcS c.Pins (gt c.Arcs j) && newArc c.Arcs j) c.Arcs.length
      · exact .done
      · have hk : ∀ j, j < c.Arcs.length → 1 ≤ (gt c.Arcs j).Kind ∧ (gt c.Arcs j).Kind ≤ 5 := fun j hj => by
          have := allN_iff.1 hA j hj
          rw [Bool.and_eq_true] at this
          exact arcS_kind this.1
        simp only [cond_true, Bool.true_and]
        refine Ev.bind (l03Kinds_ev hc.Arcs hk) ?_
        simp only [show ∀ k : Nat, k < 6 → idx (vecC (fun k => kindN c.Arcs k c.Arcs.length) 6) (k : Int) = some ((kindN c.Arcs k c.Arcs.length : Nat) : Int) from fun k hk => vecC_idx hk, (shl_pins hm hm5).2, Option.bind_some,
          show idx (vecC (fun k => kindN c.Arcs k c.Arcs.length) 6) (1 : Int) = some ((kindN c.Arcs 1 c.Arcs.length : Nat) : Int) from vecC_idx (k := 1) (by omega),
          show idx (vecC (fun k => kindN c.Arcs k c.Arcs.length) 6) (2 : Int) = some ((kindN c.Arcs 2 c.Arcs.length : Nat) : Int) from vecC_idx (k := 2) (by omega),
          show idx (vecC (fun k => kindN c.Arcs k c.Arcs.length) 6) (3 : Int) = some ((kindN c.Arcs 3 c.Arcs.length : Nat) : Int) from vecC_idx (k := 3) (by omega), kindN_pos, kindN_zero]
        unfold kindB
        refine Ev.iff (fun _ => ?_) (fun _ => Ev.iff (fun _ => ?_) (fun _ => Ev.iff (fun _ => ?_) (fun _ => .done)))
        · refine Ev.bind hL3 ?_
          cases (c.Truth.all fun x => inI x 0 1)
          · exact Ev.now (by simp)
          · exact (Ev.andP (fun _ => .done)).cast (by rw [Bool.and_true])
        · refine (Ev.andP fun _ => Ev.andP fun _ => Ev.andP fun _ => .done).cast ?_
          cases (((clkN c.Pins c.Pins.length : Nat) : Int) == 1) <;> cases ((c.Truth.length : Int) == 0) <;> cases hasB c.Arcs ((1 : Nat) : Int) <;> cases hasB c.Arcs ((2 : Nat) : Int) <;> cases hasB c.Arcs ((3 : Nat) : Int) <;> rfl
        · refine (Ev.andP fun _ => Ev.andP fun _ => Ev.andP fun _ => Ev.andP fun _ => .done).cast ?_
          cases (((clkN c.Pins c.Pins.length : Nat) : Int) == 1) <;> cases ((c.Truth.length : Int) == 0) <;> cases hasB c.Arcs ((1 : Nat) : Int) <;> cases hasB c.Arcs ((2 : Nat) : Int) <;> cases hasB c.Arcs ((3 : Nat) : Int) <;> rfl

/-! ### Libraries -/

def libB (l : TLibrary) : Bool := l.Cells.all cellB && (decide (l.Cells.length ≤ 8) && namesB (l.Cells.map TCell.Name))

theorem IsLibrary_ev {l : TLibrary} (h : ok_Library l) : Ev (fun n => impl_IsLibrary n l) (libB l) := by
  have hl := h.Cells.len
  have hL : Ev (fun n => impl_IsLibrary_L1 l n ([] : List ByteArray) 0) (bif allN (fun j => cellB (gt l.Cells j)) l.Cells.length then .nxt (l.Cells.map TCell.Name, (l.Cells.length : Int)) else .ret false) := by
    refine loopN (Lf := impl_IsLibrary_L1 l) (S := fun j => (l.Cells.take j).map TCell.Name) (fun j => cellB (gt l.Cells j)) (fun n => ?_) (fun j hj hp X hX => ?_)
    · simp only [impl_IsLibrary_L1, lt_nat_f (Nat.le_refl _), cond_false, List.take_length]
    · simp only [impl_IsLibrary_L1, lt_nat_t hj, cond_true, idx_gt hj, Option.bind_some, appS_one hj hl, take_succ_gt (g := TCell.Name) hj, w64_succ (show j < 9223372036854775807 by omega)]
      exact Ev.chk1 (IsCell_ev (gt_ok h.Cells hj)) hX
  unfold impl_IsLibrary libB
  rw [all_gt]
  refine Ev.bind hL ?_
  cases allN (fun j => cellB (gt l.Cells j)) l.Cells.length
  · exact .done
  · simp only [cond_true, Bool.true_and, show decide ((l.Cells.length : Int) ≤ 8) = decide (l.Cells.length ≤ 8) from le_natB (k := 8)]
    exact Ev.andP fun _ => Ev.last (areNames_ev (okS_map h.Cells (fun x hx => hx.Name)))
end Go.Fw
