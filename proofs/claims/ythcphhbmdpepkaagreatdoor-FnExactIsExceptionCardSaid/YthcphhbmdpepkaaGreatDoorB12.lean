/- Plain laws: pins, lists of tables. -/
import Derived.Test.YthcphhbmdpepkaaGreatDoorFw28

namespace Go.Fw
open Go
set_option maxRecDepth 100000

instance : Inhabited TPin := ⟨⟨ByteArray.empty, 0, 0, false⟩⟩
instance : Inhabited TTable := ⟨⟨[], [], []⟩⟩
instance : Inhabited TArc := ⟨⟨0, 0, 0, 0, [], []⟩⟩
instance : Inhabited TCell := ⟨⟨ByteArray.empty, 0, [], [], [], 0, 0⟩⟩
instance : Inhabited TInstance := ⟨⟨ByteArray.empty, 0, []⟩⟩
instance : Inhabited TPort := ⟨⟨ByteArray.empty, 0, 0⟩⟩
instance : Inhabited TWire := ⟨⟨[], [], [], []⟩⟩

theorem lastE {j m : Nat} (h : j < m) (hm : m ≤ 1048576) : ((j : Int) == W64 ((m : Int) - 1)) = decide (j + 1 = m) := by
  rcases last_eq h with h | h
  · exact h
  · omega
theorem strAt_map {α : Type} [Inhabited α] {xs : List α} {g : α → ByteArray} {j : Nat} (h : j < xs.length) : strAt (xs.map g) j = g (gt xs j) := by
  rw [strAt_eq (by simpa using h), gt_eq h]; simp
/-- Names that differ, by the list that they are taken from. -/
theorem okS_map {α : Type} {xs : List α} {g : α → ByteArray} {ok : α → Prop} (h : okL ok xs) (hg : ∀ x, ok x → okS (g x)) : okL okS (xs.map g) :=
  ⟨by rw [List.length_map]; exact h.1, fun y hy => by
    obtain ⟨x, hx, rfl⟩ := List.mem_map.1 hy
    exact hg x (h.2 x hx)⟩
theorem appS_one {α β : Type} {xs : List α} {g : α → β} {j : Nat} (h : j < xs.length) (hl : xs.length ≤ 1048576) {y : β} : appS ((xs.take j).map g) [y] = some ((xs.take j).map g ++ [y]) :=
  appS_ok (by simp; omega)

/-! ### Pins -/

def pinB (ps : List TPin) (j : Nat) : Bool :=
  bif decide (j + 1 = ps.length) then ((gt ps j).Dir == 2) && (((gt ps j).Cap == 0) && !(gt ps j).Clock) else ((gt ps j).Dir == 1) && inI (gt ps j).Cap 0 500
def pinsB (ps : List TPin) : Bool := allN (pinB ps) ps.length && (lenB ps 2 5 && namesB (ps.map TPin.Name))
def clkN (ps : List TPin) (j : Nat) : Nat := cntP (fun i => (gt ps i).Clock) j

theorem arePins_ev {ps : List TPin} (h : okL ok_Pin ps) : Ev (fun n => impl_arePins n ps) (pinsB ps) := by
  have hl := h.len
  have hL : Ev (fun n => impl_arePins_L1 ps n ([] : List ByteArray) 0) (bif allN (pinB ps) ps.length then .nxt (ps.map TPin.Name, (ps.length : Int)) else .ret false) := by
    refine loopN (Lf := impl_arePins_L1 ps) (S := fun j => (ps.take j).map TPin.Name) (pinB ps) (fun n => ?_) (fun j hj hp X hX => ?_)
    · simp only [impl_arePins_L1, lt_nat_f (Nat.le_refl _), cond_false, List.take_length]
    · simp only [impl_arePins_L1, lt_nat_t hj, cond_true, idx_gt hj, Option.bind_some, appS_one hj hl, take_succ_gt (g := TPin.Name) hj, lastE hj hl, bne, bnot_bif, within_eq, w64_succ (show j < 9223372036854775807 by omega)]
      generalize hc : pinB ps j = c at hX ⊢
      unfold pinB at hc
      cases hd : decide (j + 1 = ps.length)
      · rw [hd] at hc
        simp only [cond_false] at hc ⊢
        subst hc
        exact Ev.okP (fun h1 => Ev.okP1 (fun h2 => hX (by rw [h1, h2]; rfl)))
      · rw [hd] at hc
        simp only [cond_true] at hc ⊢
        subst hc
        refine Ev.okP (fun h1 => Ev.okP (fun h2 => Ev.chkP1 (fun h3 => hX (by rw [h1, h2, h3]; rfl))))
  unfold impl_arePins pinsB
  refine Ev.bind hL ?_
  cases allN (pinB ps) ps.length
  · exact .done
  · simp only [cond_true, impl_length_impl_Pin, within_eq, Option.bind_some, show inI (ps.length : Int) 2 5 = lenB ps 2 5 from lenB_in (lo := 2) (hi := 5), Bool.true_and]
    exact Ev.andP (fun _ => Ev.last (areNames_ev (okS_map h (fun x hx => hx.Name))))

/-- A check of the reference, one pin. -/
def pinS (ps : List TPin) (j : Nat) : Bool := allN (neB (ps.map TPin.Name) j) j && ((nameB (gt ps j).Name && inI (gt ps j).Cap 0 500) && (bif decide (j + 1 = ps.length) then ((gt ps j).Dir == 2) && (((gt ps j).Cap == 0) && !(gt ps j).Clock) else ((gt ps j).Dir == 1)))

theorem pinS_eq {ps : List TPin} : (lenB ps 2 5 && allN (pinS ps) ps.length) = pinsB ps := by
  have e : namesB (ps.map TPin.Name) = allN (fun j => nameB (gt ps j).Name && allN (neB (ps.map TPin.Name) j) j) ps.length := by
    unfold namesB
    rw [List.length_map]
    exact allN_congr (fun j hj => by rw [strAt_map hj])
  unfold pinsB
  rw [e, ← Bool.and_assoc, Bool.and_comm (allN (pinB ps) ps.length), Bool.and_assoc, ← allN_and]
  congr 1
  refine allN_congr (fun j hj => ?_)
  unfold pinS pinB
  cases hd : decide (j + 1 = ps.length)
  · simp only [cond_false]
    cases allN (neB (ps.map TPin.Name) j) j <;> cases nameB (gt ps j).Name <;> cases inI (gt ps j).Cap 0 500 <;> cases ((gt ps j).Dir == 1) <;> rfl
  · simp only [cond_true]
    cases hcap : ((gt ps j).Cap == 0)
    · simp
    · have : inI (gt ps j).Cap 0 500 = true := by rw [beq_iff_eq] at hcap; rw [hcap]; rfl
      rw [this]
      cases allN (neB (ps.map TPin.Name) j) j <;> cases nameB (gt ps j).Name <;> cases ((gt ps j).Dir == 2) <;> cases (gt ps j).Clock <;> rfl

theorem l03Pins_ev {c : TCell} (h : okL ok_Pin c.Pins) : Ev (fun n => spec_l03Pins n c) (bif pinsB c.Pins then (((clkN c.Pins c.Pins.length : Nat) : Int), true) else (0, false)) := by
  have hl := h.len
  have hL2 : ∀ j, j < c.Pins.length → Ev (fun n => spec_l03Pins_L2 c (j : Int) (gt c.Pins j) n 0) (bif allN (neB (c.Pins.map TPin.Name) j) j then .nxt (j : Int) else .ret (0, false)) := by
    intro j hj
    refine ev_all ?_ (fun i hi X hX => Ev.succ ?_)
    · exact Ev.succ (by simp only [spec_l03Pins_L2, lt_nat_f (Nat.le_refl _), cond_false]; exact .done)
    · simp only [spec_l03Pins_L2, lt_nat_t hi, cond_true, idx_gt (show i < c.Pins.length by omega), Option.bind_some, toList_eq_iff, w64_succ (show i < 9223372036854775807 by omega)]
      unfold neB
      rw [strAt_map (g := TPin.Name) (show i < c.Pins.length by omega), strAt_map (g := TPin.Name) hj]
      exact Ev.chkP1 (fun _ => hX)
  have hL1 : Ev (fun n => spec_l03Pins_L1 c n 0 0) (bif allN (pinS c.Pins) c.Pins.length then .nxt (((clkN c.Pins c.Pins.length : Nat) : Int), (c.Pins.length : Int)) else .ret (0, false)) := by
    refine loopN (Lf := spec_l03Pins_L1 c) (S := fun j => ((clkN c.Pins j : Nat) : Int)) (pinS c.Pins) (fun n => ?_) (fun j hj hp X hX => ?_)
    · simp only [spec_l03Pins_L1, lt_nat_f (Nat.le_refl _), cond_false]
    · have hn : clkN c.Pins j ≤ j := cntP_le
      have ejl : ((j : Int) == W64 ((c.Pins.length : Int) - 1)) = decide (j + 1 = c.Pins.length) := lastE hj hl
      have elt : decide ((j : Int) < W64 ((c.Pins.length : Int) - 1)) = !decide (j + 1 = c.Pins.length) := by
        rw [w64_of (by omega) (by omega), Bool.eq_iff_iff]; simp; omega
      simp only [spec_l03Pins_L1, lt_nat_t hj, cond_true, idx_gt hj, Option.bind_some, w64_succ (show j < 9223372036854775807 by omega), w64_succ (show clkN c.Pins j < 9223372036854775807 by omega), ejl, elt, l01In_eq]
      unfold pinS
      refine Ev.bind (hL2 j hj) ?_
      cases ha : allN (neB (c.Pins.map TPin.Name) j) j
      · exact .done
      · simp only [cond_true, Bool.true_and]
        refine Ev.chkT ?_ (fun h1 => ?_)
        · exact Ev.or (l03Name_ev (gt_ok h hj).Name) (fun _ => .done)
        · refine Ev.chkT1 ?_ (fun h2 => ?_)
          · cases decide (j + 1 = c.Pins.length)
            · exact .done
            · simp only [cond_true, Bool.not_true, cond_false, bne, bnot_bif]
              cases ((gt c.Pins j).Dir == 2) <;> cases ((gt c.Pins j).Cap == 0) <;> cases (gt c.Pins j).Clock <;> exact .done
          · have hX := hX (by unfold pinS; rw [ha, h1, h2]; rfl)
            have hck : clkN c.Pins (j + 1) = clkN c.Pins j + (bif (gt c.Pins j).Clock then 1 else 0) := rfl
            rw [hck] at hX
            cases hc : (gt c.Pins j).Clock
            · rw [hc] at hX; exact Ev.ff rfl hX
            · rw [hc] at hX; exact Ev.tt rfl hX
  rw [← pinS_eq]
  unfold spec_l03Pins
  refine Ev.guard ?_ (fun h1 => ?_)
  · unfold lenB
    have e1 : decide ((c.Pins.length : Int) < 2) = !decide (2 ≤ c.Pins.length) := by rw [Bool.eq_iff_iff]; simp; omega
    have e2 : decide ((c.Pins.length : Int) > 5) = !decide (c.Pins.length ≤ 5) := by rw [Bool.eq_iff_iff]; simp; omega
    rw [e1, e2]
    cases decide (2 ≤ c.Pins.length) <;> cases decide (c.Pins.length ≤ 5) <;> exact .done
  · refine Ev.bind hL1 ?_
    cases allN (pinS c.Pins) c.Pins.length <;> exact .done

/-! ### Lists of tables -/

def mnL (xs : List Int) : Int := (xs.drop 1).foldl (fun m y => if y < m then y else m) (at0 xs 0)
def mxL (xs : List Int) : Int := (xs.drop 1).foldl (fun m y => if y > m then y else m) (at0 xs 0)

theorem tableB_pos {t : TTable} (h : tableB t = true) : 1 ≤ t.Values.length := by
  unfold tableB axisB lenB at h
  simp only [Bool.and_eq_true, decide_eq_true_eq] at h
  obtain ⟨⟨⟨h1, _⟩, _⟩, ⟨⟨h2, _⟩, _⟩, h3, _⟩ := h
  rw [h3]
  exact Nat.mul_pos h1 h2

theorem sMin_ev {xs : List Int} (h1 : 1 ≤ xs.length) (hl : xs.length ≤ 1048576) : Ev (fun n => slices_Min_int64 n xs) (mnL xs) := by
  have hL := (fold_from (Lf := fun n t j => slices_Min_int64_L1 xs n t j) (xs := xs) (step := fun (m y : Int) => if y < m then y else m) (fin := fun t => (t, (xs.length : Int))) 1 (at0 xs 0) (fun _ _ => True) h1 trivial (fun _ _ _ _ => trivial)
    (fun n t => by simp only [slices_Min_int64_L1, lt_nat_f (Nat.le_refl _), cond_false])
    (fun j t hj _ X hX => by simpa only [slices_Min_int64_L1, lt_nat_t hj, cond_true, idx_lt hj, Option.bind_some, w64_succ (show j < 9223372036854775807 by omega)] using hX)).1
  unfold slices_Min_int64
  rw [show decide ((xs.length : Int) < 1) = false by simp; omega, show idx xs (0 : Int) = some (at0 xs 0) from idx_at0 (j := 0) (by omega)]
  simp only [cond_false, Option.bind_some]
  exact Ev.bind hL .done

theorem tBounds_ev {t : TTable} (h : ok_Table t) : Ev (fun n => spec_TableBounds n t) (bif tableB t then (⟨mnL t.Values, mxL t.Values⟩, 0) else (⟨0, 0⟩, 1)) := by
  unfold spec_TableBounds
  refine Ev.chk1 (sIsTable_ev h) (fun hb => ?_)
  have h1 := tableB_pos hb
  have hl := h.Values.len
  have hL := (fold_from (Lf := fun n (t' : Int × Int) j => spec_TableBounds_L1 t n t'.1 t'.2 j) (xs := t.Values) (step := fun (m : Int × Int) y => (if y < m.1 then y else m.1, if y > m.2 then y else m.2)) (fin := fun t' => (t'.1, t'.2, (t.Values.length : Int))) 1 (at0 t.Values 0, at0 t.Values 0) (fun _ _ => True) h1 trivial (fun _ _ _ _ => trivial)
    (fun n t => by simp only [spec_TableBounds_L1, lt_nat_f (Nat.le_refl _), cond_false])
    (fun j t hj _ X hX => by simpa only [spec_TableBounds_L1, lt_nat_t hj, cond_true, idx_lt hj, Option.bind_some, w64_succ (show j < 9223372036854775807 by omega)] using hX)).1
  have hf : ∀ (ys : List Int) (a b : Int), ys.foldl (fun (m : Int × Int) y => (if y < m.1 then y else m.1, if y > m.2 then y else m.2)) (a, b) = (ys.foldl (fun m y => if y < m then y else m) a, ys.foldl (fun m y => if y > m then y else m) b) := by
    intro ys
    induction ys with
    | nil => intro a b; rfl
    | cons y ys ih => intro a b; simp only [List.foldl_cons, ih]
  rw [hf] at hL
  rw [show idx t.Values (0 : Int) = some (at0 t.Values 0) from idx_at0 (j := 0) (by omega)]
  simp only [Option.bind_some]
  exact Ev.bind hL .done

def tabB (pos : Bool) (t : TTable) : Bool := tableB t && (!pos || decide (0 ≤ mnL t.Values))
def tablesB (ts : List TTable) (pos : Bool) : Bool := decide (ts.length = 2) && ts.all (tabB pos)

theorem areTables_ev {ts : List TTable} {pos : Bool} (h : okL ok_Table ts) : Ev (fun n => impl_areTables n ts pos) (tablesB ts pos) := by
  have hl := h.len
  have h1 : Ev (fun n => slices_IndexFunc_impl_Table_impl_areTables_1 n ts pos) (ixL (fun x => !tabB pos x) ts) :=
    index_ev (fin := (ts.length : Int)) (Lf := slices_IndexFunc_impl_Table_impl_areTables_1_L1 ts pos) (pf := fun n x => impl_areTables_1 n x pos) (fun x hx => by
        unfold impl_areTables_1 tabB
        refine Ev.or (IsTable_ev (h.2 x hx)) (fun hb => ?_)
        cases pos
        · exact .done
        · refine Ev.tt rfl (Ev.bind (sMin_ev (tableB_pos hb) (h.2 x hx).Values.len) (Ev.now ?_))
          congr 1
          rw [Bool.eq_iff_iff]; simp)
      (fun n => by simp only [slices_IndexFunc_impl_Table_impl_areTables_1_L1, lt_nat_f (Nat.le_refl _), cond_false])
      (fun n j x hx => by
        have hj := (List.getElem?_eq_some_iff.1 hx).1
        simp only [slices_IndexFunc_impl_Table_impl_areTables_1_L1, lt_nat_t hj, cond_true, idx_at hx, Option.bind_some, w64_succ (show j < 9223372036854775807 by omega)])
      (fun n => by unfold slices_IndexFunc_impl_Table_impl_areTables_1; congr 1; funext o; cases o <;> rfl)
  unfold impl_areTables slices_ContainsFunc_impl_Table_impl_areTables_1 tablesB
  rw [show ((ts.length : Int) == 2) = decide (ts.length = 2) by rw [Bool.eq_iff_iff]; simp; omega]
  refine Ev.andP (fun _ => Ev.bind (Ev.bind h1 (Ev.now rfl)) (Ev.now ?_))
  rw [ixL_ge, not_any]

theorem l03Tables_ev {ts : List TTable} {pos : Bool} (h : okL ok_Table ts) : Ev (fun n => spec_l03Tables n ts pos) (tablesB ts pos) := by
  unfold spec_l03Tables tablesB
  rw [show ((ts.length : Int) != 2) = !decide (ts.length = 2) by rw [Bool.eq_iff_iff]; simp; omega]
  simp only [bnot_bif]
  refine Ev.andP (fun h2 => ?_)
  have h2 : ts.length = 2 := by simpa using h2
  have hL : Ev (fun n => spec_l03Tables_L1 ts pos n 0) (bif allN (fun j => tabB pos (gt ts j)) ts.length then .nxt (2 : Int) else .ret false) := by
    refine ev_all (len := ts.length) ?_ (fun j hj X hX => Ev.succ ?_)
    · rw [h2]; exact Ev.succ (by simp only [spec_l03Tables_L1]; exact .done)
    · simp only [spec_l03Tables_L1, show decide ((j : Int) < 2) = true by simp; omega, cond_true, idx_gt hj, Option.bind_some, w64_succ (show j < 9223372036854775807 by omega)]
      refine Ev.bind (tBounds_ev (gt_ok h hj)) ?_
      unfold tabB
      cases tableB (gt ts j)
      · exact .done
      · simp only [cond_true, Bool.true_and]
        refine Ev.ff rfl ?_
        cases pos
        · exact hX
        · refine Ev.tt rfl ?_
          rw [show decide (mnL (gt ts j).Values < 0) = !decide (0 ≤ mnL (gt ts j).Values) by rw [Bool.eq_iff_iff]; simp]
          simp only [bnot_bif]
          exact Ev.okP1 (fun _ => hX)
  rw [all_gt]
  refine Ev.bind hL ?_
  cases allN (fun j => tabB pos (gt ts j)) ts.length <;> exact .done
end Go.Fw


namespace Go.Fw
open Go
set_option maxRecDepth 100000

theorem idx_gi {α : Type} [Inhabited α] {xs : List α} {x : Int} (h0 : 0 ≤ x) (h1 : x < xs.length) : idx xs x = some (gt xs x.toNat) := by
  have := idx_gt (xs := xs) (j := x.toNat) (by omega)
  rwa [← nat_of h0] at this
theorem cntP_mono {q : Nat → Bool} {m n : Nat} (h : m ≤ n) : cntP q m ≤ cntP q n := by
  induction n with
  | zero => obtain rfl : m = 0 := by omega
            exact Nat.le_refl _
  | succ n ih =>
    rcases Nat.lt_or_eq_of_le h with h | rfl
    · exact Nat.le_trans (ih (by omega)) (Nat.le_add_right _ _)
    · exact Nat.le_refl _
theorem le_natB {m k : Nat} : decide ((m : Int) ≤ (k : Int)) = decide (m ≤ k) := by rw [Bool.eq_iff_iff]; simp
theorem cntP_two {q : Nat → Bool} {n i j : Nat} (hi : i < j) (hj : j < n) (h1 : q i = true) (h2 : q j = true) : 2 ≤ cntP q n := by
  have e1 : cntP q (i + 1) = cntP q i + 1 := by rw [cntP, h1]; rfl
  have e2 : cntP q (j + 1) = cntP q j + 1 := by rw [cntP, h2]; rfl
  have m1 := cntP_mono (q := q) (show i + 1 ≤ j by omega)
  have m2 := cntP_mono (q := q) (show j + 1 ≤ n by omega)
  omega
theorem cntP_one {q : Nat → Bool} {n i j : Nat} (hn : cntP q n ≤ 1) (hi : i < n) (hj : j < n) (h1 : q i = true) (h2 : q j = true) : i = j := by
  rcases Nat.lt_trichotomy i j with h | h | h
  · have := cntP_two h hj h1 h2; omega
  · exact h
  · have := cntP_two h hi h2 h1; omega

/-! ### Arcs -/

def clkIx (ps : List TPin) : Int := ixL (fun p => p.Clock) ps
def clkAt (ps : List TPin) (x : Int) : Bool := (gt ps x.toNat).Clock

theorem clock_ev {c : TCell} (hl : c.Pins.length ≤ 1048576) : Ev (fun n => impl_Cell_clock n c) (clkIx c.Pins) := by
  unfold impl_Cell_clock
  refine Ev.bind (b := clkIx c.Pins) ?_ .done
  exact index_ev (fin := (c.Pins.length : Int)) (Lf := slices_IndexFunc_impl_Pin_impl_Cell_clock_1_L1 c.Pins) (pf := fun n x => impl_Cell_clock_1 n x) (fun _ _ => .done)
    (fun n => by simp only [slices_IndexFunc_impl_Pin_impl_Cell_clock_1_L1, lt_nat_f (Nat.le_refl _), cond_false])
    (fun n j x hx => by
      have hj := (List.getElem?_eq_some_iff.1 hx).1
      simp only [slices_IndexFunc_impl_Pin_impl_Cell_clock_1_L1, lt_nat_t hj, cond_true, idx_at hx, Option.bind_some, w64_succ (show j < 9223372036854775807 by omega)])
    (fun n => by unfold slices_IndexFunc_impl_Pin_impl_Cell_clock_1; congr 1; funext o; cases o <;> rfl)

def arcI (ps : List TPin) (a : TArc) : Bool :=
  bif (a.Kind == 4) || (a.Kind == 5) then
    (a.Sense == 0) && (((a.Slew.length : Int) == 0) && (tablesB a.Delay false && ((a.From == clkIx ps) && (decide (a.From ≥ 0) && (inI a.To 0 (ps.length - 2) && !(a.To == a.From))))))
  else
    (tablesB a.Delay true && (tablesB a.Slew true && ((a.To == (ps.length : Int) - 1) && inI a.From 0 (ps.length - 2)))) &&
      (bif a.Kind == 1 then !clkAt ps a.From && inI a.Sense 1 3 else (bif (a.Kind == 2) || (a.Kind == 3) then clkAt ps a.From && (a.Sense == 0) else false))

def arcS (ps : List TPin) (a : TArc) : Bool :=
  (inI a.From 0 (ps.length - 2) && inI a.To 0 (ps.length - 1)) &&
    (bif a.Kind == 1 then !clkAt ps a.From && ((a.To == (ps.length : Int) - 1) && (inI a.Sense 1 3 && (tablesB a.Delay true && tablesB a.Slew true)))
     else (bif (a.Kind == 2) || (a.Kind == 3) then clkAt ps a.From && ((a.To == (ps.length : Int) - 1) && ((a.Sense == 0) && (tablesB a.Delay true && tablesB a.Slew true)))
     else (bif (a.Kind == 4) || (a.Kind == 5) then clkAt ps a.From && (decide (a.To < (ps.length : Int) - 1) && (!clkAt ps a.To && ((a.Sense == 0) && (tablesB a.Delay false && ((a.Slew.length : Int) == 0))))) else false)))

theorem bif_self_or {c d : Bool} : (bif c then some c else some d) = some (c || d) := by cases c <;> rfl
theorem bif_true_or {c d : Bool} : (bif c then some true else some d) = some (c || d) := by cases c <;> rfl

theorem isCheck_eq {n : Nat} {k : Int} : impl_isCheck n k = some ((k == 4) || (k == 5)) := by simp only [impl_isCheck, bif_true_or]
theorem isArc_ev {c : TCell} {a : TArc} (h : okL ok_Pin c.Pins) (ha : ok_Arc a) (hm : 2 ≤ c.Pins.length) : Ev (fun n => impl_Cell_isArc n c a) (arcI c.Pins a) := by
  have hl := h.len
  have e1 : W64 ((c.Pins.length : Int) - 1) = (c.Pins.length : Int) - 1 := w64_pred (by omega)
  have e2 : W64 ((c.Pins.length : Int) - 1 - 1) = (c.Pins.length : Int) - 2 := by rw [w64_of (by omega) (by omega)]; omega
  simp only [impl_Cell_isArc, isCheck_eq, Option.bind_some, impl_Cell_isInput, impl_Cell_output, impl_length_impl_Pin, e1, e2, within_eq, bif_self_or, bne]
  unfold arcI
  refine Ev.iff (fun _ => Ev.last ?_) (fun _ => Ev.guardB ?_ (fun hb => ?_))
  · exact Ev.andP fun _ => Ev.andP fun _ => Ev.and (areTables_ev ha.Delay) fun _ => Ev.bind (clock_ev hl) (Ev.andP fun _ => Ev.andP fun _ => Ev.andP fun _ => .done)
  · refine Ev.or (areTables_ev ha.Delay) fun _ => Ev.or (areTables_ev ha.Slew) fun _ => ?_
    simp only [bnot_bif]
    exact Ev.orBP fun _ => .done
  · have hf : 0 ≤ a.From ∧ a.From ≤ (c.Pins.length : Int) - 2 := by
      simp only [Bool.and_eq_true, inI_iff] at hb
      exact hb.2.2.2
    simp only [idx_gi hf.1 (show a.From < (c.Pins.length : Int) by omega), Option.bind_some]
    exact Ev.iff (fun _ => Ev.andP fun _ => .done) (fun _ => Ev.iff (fun _ => Ev.andP fun _ => .done) (fun _ => .done))

theorem l03Arc_ev {c : TCell} {a : TArc} (h : okL ok_Pin c.Pins) (ha : ok_Arc a) (hm : 2 ≤ c.Pins.length) : Ev (fun n => spec_l03Arc n c a) (arcS c.Pins a) := by
  have hl := h.len
  have e1 : W64 ((c.Pins.length : Int) - 1) = (c.Pins.length : Int) - 1 := w64_pred (by omega)
  have e2 : W64 ((c.Pins.length : Int) - 1 - 1) = (c.Pins.length : Int) - 2 := by rw [w64_of (by omega) (by omega)]; omega
  simp only [spec_l03Arc, Option.bind_some, e1, e2, l01In_eq, bif_self_or]
  unfold arcS
  refine Ev.guardB ?_ (fun hb => ?_)
  · simp only [bnot_bif]
    exact Ev.orBP fun _ => .done
  · have hf : (0 ≤ a.From ∧ a.From ≤ (c.Pins.length : Int) - 2) ∧ (0 ≤ a.To ∧ a.To ≤ (c.Pins.length : Int) - 1) := by
      simp only [Bool.and_eq_true, inI_iff] at hb
      exact hb
    simp only [idx_gi hf.1.1 (show a.From < (c.Pins.length : Int) by omega), idx_gi hf.2.1 (show a.To < (c.Pins.length : Int) by omega), Option.bind_some]
    refine Ev.iff (fun _ => ?_) (fun _ => Ev.iff (fun _ => ?_) (fun _ => Ev.iff (fun _ => ?_) (fun _ => .done)))
    · exact Ev.andP fun _ => Ev.andP fun _ => Ev.andP fun _ => Ev.and (l03Tables_ev ha.Delay) fun _ => Ev.last (l03Tables_ev ha.Slew)
    · exact Ev.andP fun _ => Ev.andP fun _ => Ev.andP fun _ => Ev.and (l03Tables_ev ha.Delay) fun _ => Ev.last (l03Tables_ev ha.Slew)
    · exact Ev.andP fun _ => Ev.andP fun _ => Ev.andP fun _ => Ev.andP fun _ => Ev.and (l03Tables_ev ha.Delay) fun _ => .done

/-- The place of the clock, where there is one at most. -/
theorem clkIx_iff {ps : List TPin} (h1 : clkN ps ps.length ≤ 1) {x : Int} (hx : 0 ≤ x) : clkIx ps = x ↔ x < ps.length ∧ clkAt ps x = true := by
  unfold clkIx ixL
  cases hf : ps.findIdx? (fun p => p.Clock) with
  | some j =>
    obtain ⟨hj, hp, _⟩ := List.findIdx?_eq_some_iff_getElem.1 hf
    have hpj : (gt ps j).Clock = true := by rw [gt_eq hj]; exact hp
    constructor
    · intro e
      have e : (j : Int) = x := e
      subst e
      exact ⟨by omega, by unfold clkAt; rw [Int.toNat_natCast]; exact hpj⟩
    · rintro ⟨hl, hc⟩
      have := cntP_one h1 hj (show x.toNat < ps.length by omega) hpj hc
      show (j : Int) = x
      omega
  | none =>
    have hn := List.findIdx?_eq_none_iff.1 hf
    constructor
    · intro e
      have e : (-1 : Int) = x := e
      omega
    · rintro ⟨hl, hc⟩
      have hxl : x.toNat < ps.length := by omega
      unfold clkAt at hc
      rw [gt_eq hxl] at hc
      have := hn _ (List.getElem_mem hxl)
      rw [hc] at this
      exact absurd this (by decide)

theorem pinsB_last {ps : List TPin} (h : pinsB ps = true) : (2 ≤ ps.length ∧ ps.length ≤ 5) ∧ clkAt ps ((ps.length : Int) - 1) = false := by
  unfold pinsB lenB at h
  simp only [Bool.and_eq_true, decide_eq_true_eq] at h
  refine ⟨h.2.1, ?_⟩
  have h1 := allN_iff.1 h.1 (ps.length - 1) (by omega)
  unfold pinB at h1
  rw [show decide (ps.length - 1 + 1 = ps.length) = true by simp; omega] at h1
  simp only [cond_true, Bool.and_eq_true, Bool.not_eq_true'] at h1
  unfold clkAt
  rw [show ((ps.length : Int) - 1).toNat = ps.length - 1 by omega]
  exact h1.2.2

theorem arc_eq {ps : List TPin} {a : TArc} (h : pinsB ps = true) (h1 : clkN ps ps.length ≤ 1) : arcI ps a = arcS ps a := by
  obtain ⟨⟨hm, hm5⟩, hlast⟩ := pinsB_last h
  rw [Bool.eq_iff_iff]
  unfold arcI arcS
  cases h45 : ((a.Kind == 4) || (a.Kind == 5)) with
  | true =>
    have k1 : (a.Kind == 1) = false := by simp at h45 ⊢; omega
    have k23 : ((a.Kind == 2) || (a.Kind == 3)) = false := by simp at h45 ⊢; omega
    rw [k1, k23]
    simp only [cond_true, cond_false, Bool.and_eq_true, inI_iff, decide_eq_true_eq, beq_iff_eq, Bool.not_eq_true', beq_eq_false_iff_ne, ne_eq]
    constructor
    · rintro ⟨hs, hsl, hd, hf, hf0, ht, hne⟩
      obtain ⟨hl, hc⟩ := (clkIx_iff h1 hf0).1 hf.symm
      have hfl : a.From ≠ (ps.length : Int) - 1 := by intro e; rw [e, hlast] at hc; cases hc
      refine ⟨⟨⟨hf0, by omega⟩, ⟨ht.1, by omega⟩⟩, hc, by omega, ?_, hs, hd, hsl⟩
      cases hct : clkAt ps a.To with
      | false => rfl
      | true =>
        have := (clkIx_iff h1 ht.1).2 ⟨by omega, hct⟩
        omega
    · rintro ⟨⟨hf, ht⟩, hc, hlt, hct, hs, hd, hsl⟩
      have := (clkIx_iff h1 hf.1).2 ⟨by omega, hc⟩
      refine ⟨hs, hsl, hd, this.symm, hf.1, ⟨ht.1, by omega⟩, ?_⟩
      intro e
      rw [e, hc] at hct
      cases hct
  | false =>
    simp only [cond_false, Bool.and_eq_true, inI_iff, beq_iff_eq]
    cases (a.Kind == 1)
    · cases ((a.Kind == 2) || (a.Kind == 3))
      · simp
      · simp only [cond_true, cond_false, Bool.and_eq_true, beq_iff_eq]
        constructor
        · rintro ⟨⟨h1, h2, h3, h4⟩, h5, h6⟩
          exact ⟨⟨h4, by omega⟩, h5, h3, h6, h1, h2⟩
        · rintro ⟨⟨h4, h7⟩, h5, h3, h6, h1, h2⟩
          exact ⟨⟨h1, h2, h3, h4⟩, h5, h6⟩
    · simp only [cond_true, Bool.and_eq_true, inI_iff, Bool.not_eq_true', beq_iff_eq]
      constructor
      · rintro ⟨⟨h1, h2, h3, h4⟩, h5, h6⟩
        exact ⟨⟨h4, by omega⟩, h5, h3, h6, h1, h2⟩
      · rintro ⟨⟨h4, h7⟩, h5, h3, h6, h1, h2⟩
        exact ⟨⟨h1, h2, h3, h4⟩, h5, h6⟩

theorem arcS_kind {ps : List TPin} {a : TArc} (h : arcS ps a = true) : 1 ≤ a.Kind ∧ a.Kind ≤ 5 := by
  unfold arcS at h
  rw [Bool.and_eq_true] at h
  have h := h.2
  cases h1 : (a.Kind == 1)
  · cases h2 : ((a.Kind == 2) || (a.Kind == 3))
    · cases h4 : ((a.Kind == 4) || (a.Kind == 5))
      · rw [h1, h2, h4] at h; cases h
      · simp at h4; omega
    · simp at h2; omega
  · simp at h1; omega

def sameArc (x y : TArc) : Bool := (x.Kind == y.Kind) && ((x.From == y.From) && (x.To == y.To))
def newArc (ar : List TArc) (j : Nat) : Bool := allN (fun i => !sameArc (gt ar i) (gt ar j)) j

theorem areArcs_ev {c : TCell} (h : okL ok_Pin c.Pins) (ha : okL ok_Arc c.Arcs) (hm : 2 ≤ c.Pins.length) : Ev (fun n => impl_Cell_areArcs n c) (allN (fun j => arcI c.Pins (gt c.Arcs j) && newArc c.Arcs j) c.Arcs.length && decide (c.Arcs.length ≤ 8)) := by
  have hl := ha.len
  have h1 : ∀ (ar : List TArc) (y : TArc), ar.length ≤ 1048576 → Ev (fun n => slices_ContainsFunc_impl_Arc_impl_Cell_areArcs_1 n ar y) (ar.any fun x => sameArc x y) := by
    intro ar y hl
    unfold slices_ContainsFunc_impl_Arc_impl_Cell_areArcs_1
    refine Ev.bind (b := ixL (fun x => sameArc x y) ar) (index_ev (fin := (ar.length : Int)) (Lf := slices_IndexFunc_impl_Arc_impl_Cell_areArcs_1_L1 ar y) (pf := fun n x => impl_Cell_areArcs_1 n x y) (fun x _ => ?_)
      (fun n => by simp only [slices_IndexFunc_impl_Arc_impl_Cell_areArcs_1_L1, lt_nat_f (Nat.le_refl _), cond_false])
      (fun n j x hx => by
        have hj := (List.getElem?_eq_some_iff.1 hx).1
        simp only [slices_IndexFunc_impl_Arc_impl_Cell_areArcs_1_L1, lt_nat_t hj, cond_true, idx_at hx, Option.bind_some, w64_succ (show j < 9223372036854775807 by omega)])
      (fun n => by unfold slices_IndexFunc_impl_Arc_impl_Cell_areArcs_1; congr 1; funext o; cases o <;> rfl)) (Ev.now (by rw [ixL_ge]))
    unfold impl_Cell_areArcs_1 sameArc
    exact Ev.andP fun _ => Ev.andP fun _ => .done
  have hL : Ev (fun n => impl_Cell_areArcs_L1 c n 0) (bif allN (fun j => arcI c.Pins (gt c.Arcs j) && newArc c.Arcs j) c.Arcs.length then .nxt (c.Arcs.length : Int) else .ret false) := by
    refine ev_all ?_ (fun j hj X hX => Ev.succ ?_)
    · exact Ev.succ (by simp only [impl_Cell_areArcs_L1, lt_nat_f (Nat.le_refl _), cond_false]; exact .done)
    · simp only [impl_Cell_areArcs_L1, lt_nat_t hj, cond_true, idx_gt hj, Option.bind_some, subS_take (Nat.le_of_lt hj), w64_succ (show j < 9223372036854775807 by omega)]
      refine Ev.chk (isArc_ev h (gt_ok ha hj) hm) fun _ => Ev.chkT1 ?_ (fun _ => hX)
      refine (h1 _ _ (by simp; omega)).cast ?_
      rw [any_take (Nat.le_of_lt hj)]; rfl
  unfold impl_Cell_areArcs
  refine Ev.bind hL ?_
  cases allN (fun j => arcI c.Pins (gt c.Arcs j) && newArc c.Arcs j) c.Arcs.length
  · exact .done
  · refine Ev.now ?_
    show some (decide ((c.Arcs.length : Int) ≤ ((8 : Nat) : Int))) = some (true && decide (c.Arcs.length ≤ 8))
    rw [le_natB, Bool.true_and]

def hasB (ar : List TArc) (k : Int) : Bool := ar.any fun a => a.Kind == k
theorem has_ev {c : TCell} {k : Int} (hl : c.Arcs.length ≤ 1048576) : Ev (fun n => impl_Cell_has n c k) (hasB c.Arcs k) := by
  unfold impl_Cell_has slices_ContainsFunc_impl_Arc_impl_Cell_has_1
  exact Ev.last (Ev.bind (b := ixL (fun x => x.Kind == k) c.Arcs) (index_ev (fin := (c.Arcs.length : Int)) (Lf := slices_IndexFunc_impl_Arc_impl_Cell_has_1_L1 c.Arcs k) (pf := fun n x => impl_Cell_has_1 n x k) (fun x _ => .done)
      (fun n => by simp only [slices_IndexFunc_impl_Arc_impl_Cell_has_1_L1, lt_nat_f (Nat.le_refl _), cond_false])
      (fun n j x hx => by
        have hj := (List.getElem?_eq_some_iff.1 hx).1
        simp only [slices_IndexFunc_impl_Arc_impl_Cell_has_1_L1, lt_nat_t hj, cond_true, idx_at hx, Option.bind_some, w64_succ (show j < 9223372036854775807 by omega)])
      (fun n => by unfold slices_IndexFunc_impl_Arc_impl_Cell_has_1; congr 1; funext o; cases o <;> rfl)) (Ev.now (by rw [ixL_ge]; rfl)))

def kindN (ar : List TArc) (k : Nat) (j : Nat) : Nat := cntP (fun i => (gt ar i).Kind == (k : Int)) j
theorem kindN_pos {ar : List TArc} {k : Nat} : decide (((kindN ar k ar.length : Nat) : Int) > 0) = hasB ar k := by
  rw [show decide (((kindN ar k ar.length : Nat) : Int) > 0) = decide (0 < kindN ar k ar.length) by simp]
  unfold kindN hasB
  rw [cntP_pos, any_gt]
theorem kindN_zero {ar : List TArc} {k : Nat} : (((kindN ar k ar.length : Nat) : Int) == 0) = !hasB ar k := by
  rw [← kindN_pos, Bool.eq_iff_iff]; simp

theorem l03Kinds_ev {c : TCell} (ha : okL ok_Arc c.Arcs) (hk : ∀ j, j < c.Arcs.length → 1 ≤ (gt c.Arcs j).Kind ∧ (gt c.Arcs j).Kind ≤ 5) : Ev (fun n => spec_l03Kinds n c) (vecC (fun k => kindN c.Arcs k c.Arcs.length) 6) := by
  have hl := ha.len
  have hL : Ev (fun n => spec_l03Kinds_L1 c n (vecC (fun _ => 0) 6) 0) (vecC (fun k => kindN c.Arcs k c.Arcs.length) 6, (c.Arcs.length : Int)) := by
    refine loopF (Lf := spec_l03Kinds_L1 c) (S := fun j => vecC (fun k => kindN c.Arcs k j) 6) (len := c.Arcs.length) (fun n => ?_) (fun j hj X hX => ?_)
    · simp only [spec_l03Kinds_L1, lt_nat_f (Nat.le_refl _), cond_false]
    · obtain ⟨k1, k5⟩ := hk j hj
      have ek : (gt c.Arcs j).Kind = (((gt c.Arcs j).Kind.toNat : Nat) : Int) := nat_of (by omega)
      have hc : kindN c.Arcs (gt c.Arcs j).Kind.toNat j ≤ j := cntP_le
      simp only [spec_l03Kinds_L1, lt_nat_t hj, cond_true, idx_gt hj, Option.bind_some, w64_succ (show j < 9223372036854775807 by omega)]
      rw [ek, vecC_idx (show (gt c.Arcs j).Kind.toNat < 6 by omega)]
      simp only [Option.bind_some]
      rw [vecC_bump (c := fun k => kindN c.Arcs k j) (by show kindN c.Arcs _ j < _; omega)]
      have : vecC (fun i => kindN c.Arcs i j + (bif decide ((gt c.Arcs j).Kind.toNat = i) then 1 else 0)) 6 = vecC (fun k => kindN c.Arcs k (j + 1)) 6 := by
        refine vecC_congr (fun k _ => ?_)
        show _ = kindN c.Arcs k j + (bif (gt c.Arcs j).Kind == (k : Int) then 1 else 0)
        congr 2
        rw [Bool.eq_iff_iff]; simp; omega
      rw [this]
      exact hX
  unfold spec_l03Kinds
  rw [show mkS 6 (0 : Int) = some (vecC (fun _ => 0) 6) from vecC_zero (m := 6) (by omega)]
  simp only [Option.bind_some]
  exact Ev.bind hL .done

/-! ### Cells -/

def kindB (c : TCell) : Bool :=
  bif c.Kind == 1 then (((clkN c.Pins c.Pins.length : Nat) : Int) == 0) && (((c.Truth.length : Int) == ((2 ^ (c.Pins.length - 1) : Nat) : Int)) && (c.Truth.all fun x => inI x 0 1))
  else bif c.Kind == 2 then (((clkN c.Pins c.Pins.length : Nat) : Int) == 1) && (((c.Truth.length : Int) == 0) && (!hasB c.Arcs 1 && !(hasB c.Arcs 2 == hasB c.Arcs 3)))
  else bif c.Kind == 3 then (((clkN c.Pins c.Pins.length : Nat) : Int) == 1) && (((c.Truth.length : Int) == 0) && (hasB c.Arcs 1 && (hasB c.Arcs 2 && !hasB c.Arcs 3)))
  else false

theorem kindB_clk {c : TCell} (h : kindB c = true) : clkN c.Pins c.Pins.length ≤ 1 := by
  unfold kindB at h
  cases h1 : (c.Kind == 1)
  · cases h2 : (c.Kind == 2)
    · cases h3 : (c.Kind == 3)
      · rw [h1, h2, h3] at h; cases h
      · rw [h1, h2, h3] at h
        simp only [cond_true, cond_false, Bool.and_eq_true, beq_iff_eq] at h
        omega
    · rw [h1, h2] at h
      simp only [cond_true, cond_false, Bool.and_eq_true, beq_iff_eq] at h
      omega
  · rw [h1] at h
    simp only [cond_true, Bool.and_eq_true, beq_iff_eq] at h
    omega

theorem shl_pins {m : Nat} (h1 : 2 ≤ m) (h2 : m ≤ 5) : shlS 1 (W64 ((m : Int) - 1)) = some ((2 ^ (m - 1) : Nat) : Int) ∧ shlS 1 (IntKind.wrap .u64 (W64 ((m : Int) - 1))) = some ((2 ^ (m - 1) : Nat) : Int) := by
  have : m = 2 ∨ m = 3 ∨ m = 4 ∨ m = 5 := by omega
  rcases this with rfl | rfl | rfl | rfl <;> exact ⟨by decide, by decide⟩

theorem isOfKind_ev {c : TCell} (hc : ok_Cell c) (hm : 2 ≤ c.Pins.length) (hm5 : c.Pins.length ≤ 5) : Ev (fun n => impl_Cell_isOfKind n c) (kindB c) := by
  have hl := hc.Pins.len
  have hL : Ev (fun n => impl_Cell_isOfKind_L1 c n 0 0) (((clkN c.Pins c.Pins.length : Nat) : Int), (c.Pins.length : Int)) := by
    refine loopF (Lf := impl_Cell_isOfKind_L1 c) (S := fun j => ((clkN c.Pins j : Nat) : Int)) (len := c.Pins.length) (fun n => ?_) (fun j hj X hX => ?_)
    · simp only [impl_Cell_isOfKind_L1, lt_nat_f (Nat.le_refl _), cond_false]
    · have hn : clkN c.Pins j ≤ j := cntP_le
      simp only [impl_Cell_isOfKind_L1, lt_nat_t hj, cond_true, idx_gt hj, Option.bind_some, w64_succ (show j < 9223372036854775807 by omega), w64_succ (show clkN c.Pins j < 9223372036854775807 by omega)]
      have hck : clkN c.Pins (j + 1) = clkN c.Pins j + (bif (gt c.Pins j).Clock then 1 else 0) := rfl
      rw [hck] at hX
      cases hc : (gt c.Pins j).Clock
      · rw [hc] at hX; exact Ev.ff rfl hX
      · rw [hc] at hX; exact Ev.tt rfl hX
  unfold impl_Cell_isOfKind kindB
  refine Ev.bind hL ?_
  simp only [impl_Cell_output, impl_length_impl_Pin, Option.bind_some, (shl_pins hm hm5).1]
  have hal := hc.Arcs.len
  refine Ev.iff (fun _ => ?_) (fun _ => Ev.iff (fun _ => ?_) (fun _ => Ev.iff (fun _ => ?_) (fun _ => .done)))
  · exact Ev.andP fun _ => Ev.andP fun _ => Ev.last (areWithin_ev hc.Truth.len)
  · exact Ev.andP fun _ => Ev.andP fun _ => Ev.bind (has_ev hal) (Ev.andP fun _ => Ev.bind (has_ev hal) (Ev.bind (has_ev hal) .done))
  · exact Ev.andP fun _ => Ev.andP fun _ => Ev.and (has_ev hal) fun _ => Ev.and (has_ev hal) fun _ => Ev.bind (has_ev hal) .done

def cellB (c : TCell) : Bool :=
  nameB c.Name && (pinsB c.Pins && ((allN (fun j => arcI c.Pins (gt c.Arcs j) && newArc c.Arcs j) c.Arcs.length && decide (c.Arcs.length ≤ 8)) && (inI c.Leak 0 100000 && (inI c.Energy 0 100000 && kindB c))))

theorem IsCell_ev {c : TCell} (hc : ok_Cell c) : Ev (fun n => impl_IsCell n c) (cellB c) := by
  simp only [impl_IsCell, isName_eq hc.Name, within_eq, Option.bind_some]
  unfold cellB
  refine Ev.andP fun _ => Ev.and (arePins_ev hc.Pins) fun hp => ?_
  obtain ⟨⟨hm, hm5⟩, _⟩ := pinsB_last hp
  exact Ev.and (areArcs_ev hc.Pins hc.Arcs hm) fun _ => Ev.andP fun _ => Ev.andP fun _ => Ev.last (isOfKind_ev hc hm hm5)

theorem sIsCell_ev {c : TCell} (hc : ok_Cell c) : Ev (fun n => spec_IsCell n c) (cellB c) := by
  have hal := hc.Arcs.len
  have htl := hc.Truth.len
  have e : cellB c = ((pinsB c.Pins && (nameB c.Name && (decide (c.Arcs.length ≤ 8) && (inI c.Leak 0 100000 && inI c.Energy 0 100000)))) && (allN (fun j => arcS c.Pins (gt c.Arcs j) && newArc c.Arcs j) c.Arcs.length && kindB c)) := by
    unfold cellB
    cases hk : kindB c
    · simp
    · cases hp : pinsB c.Pins
      · simp
      · rw [allN_congr (fun j _ => by rw [arc_eq hp (kindB_clk hk)])]
        cases nameB c.Name <;> cases allN (fun j => arcS c.Pins (gt c.Arcs j) && newArc c.Arcs j) c.Arcs.length <;> cases decide (c.Arcs.length ≤ 8) <;> cases inI c.Leak 0 100000 <;> cases inI c.Energy 0 100000 <;> rfl
  rw [e]
  unfold spec_IsCell
  refine Ev.bind (l03Pins_ev hc.Pins) ?_
  cases hp : pinsB c.Pins
  · exact .done
  · obtain ⟨⟨hm, hm5⟩, _⟩ := pinsB_last hp
    simp only [cond_true, Bool.true_and, Bool.not_true, cond_false]
    refine Ev.guardB ?_ (fun _ => ?_)
    · simp only [l01In_eq, Option.bind_some, bnot_bif]
      refine Ev.orB (l03Name_ev hc.Name) fun _ => ?_
      rw [show decide ((c.Arcs.length : Int) > 8) = !decide (c.Arcs.length ≤ 8) by rw [Bool.eq_iff_iff]; simp; omega, bnot_bif]
      exact Ev.orBP fun _ => Ev.orBP fun _ => .done
    · have hL2 : ∀ j, j < c.Arcs.length → Ev (fun n => spec_IsCell_L2 c (j : Int) (gt c.Arcs j) n 0) (bif newArc c.Arcs j then .nxt (j : Int) else .ret false) := by
        intro j hj
        refine ev_all ?_ (fun i hi X hX => Ev.succ ?_)
        · exact Ev.succ (by simp only [spec_IsCell_L2, lt_nat_f (Nat.le_refl _), cond_false]; exact .done)
        · simp only [spec_IsCell_L2, lt_nat_t hi, cond_true, idx_gt (show i < c.Arcs.length by omega), Option.bind_some, w64_succ (show i < 9223372036854775807 by omega)]
          unfold sameArc
          cases ((gt c.Arcs i).Kind == (gt c.Arcs j).Kind)
          · exact hX
          · cases ((gt c.Arcs i).From == (gt c.Arcs j).From)
            · exact hX
            · cases ((gt c.Arcs i).To == (gt c.Arcs j).To)
              · exact hX
              · exact .done
      have hL1 : Ev (fun n => spec_IsCell_L1 c n 0) (bif allN (fun j => arcS c.Pins (gt c.Arcs j) && newArc c.Arcs j) c.Arcs.length then .nxt (c.Arcs.length : Int) else .ret false) := by
        refine ev_all ?_ (fun j hj X hX => Ev.succ ?_)
        · exact Ev.succ (by simp only [spec_IsCell_L1, lt_nat_f (Nat.le_refl _), cond_false]; exact .done)
        · simp only [spec_IsCell_L1, lt_nat_t hj, cond_true, idx_gt hj, Option.bind_some, w64_succ (show j < 9223372036854775807 by omega)]
          refine Ev.chk (l03Arc_ev hc.Pins (gt_ok hc.Arcs hj) hm) fun _ => Ev.bind (hL2 j hj) ?_
          cases newArc c.Arcs j
          · exact .done
          · exact hX
      have hL3 : Ev (fun n => spec_IsCell_L3 c n 0) (bif (c.Truth.all fun x => inI x 0 1) then .nxt (c.Truth.length : Int) else .ret false) :=
        all_loop (fun n => by simp only [spec_IsCell_L3, lt_nat_f (Nat.le_refl _), cond_false]) (fun j hj X hX => by
          simp only [spec_IsCell_L3, lt_nat_t hj, cond_true, idx_lt hj, Option.bind_some, l01In_eq, w64_succ (show j < 9223372036854775807 by omega), bnot_bif]
          exact Ev.okP1 fun _ => hX)
      refine Ev.bind hL1 ?_
      cases hA : allN (fun j => arcS c.Pins (gt c.Arcs j) && newArc c.Arcs j) c.Arcs.length
      · exact .done
      · have hk : ∀ j, j < c.Arcs.length → 1 ≤ (gt c.Arcs j).Kind ∧ (gt c.Arcs j).Kind ≤ 5 := fun j hj => by
          have := allN_iff.1 hA j hj
          rw [Bool.and_eq_true] at this
          exact arcS_kind this.1
        simp only [cond_true, Bool.true_and]
        refine Ev.bind (l03Kinds_ev hc.Arcs hk) ?_
        simp only [show ∀ k : Nat, k < 6 → idx (vecC (fun k => kindN c.Arcs k c.Arcs.length) 6) (k : Int) = some ((kindN c.Arcs k c.Arcs.length : Nat) : Int) from fun k hk => vecC_idx hk, (shl_pins hm hm5).2, Option.bind_some,
          show idx (vecC (fun k => kindN c.Arcs k c.Arcs.length) 6) (1 : Int) = some ((kindN c.Arcs 1 c.Arcs.length : Nat) : Int) from vecC_idx (k := 1) (by omega),
          show idx (vecC (fun k => kindN c.Arcs k c.Arcs.length) 6) (2 : Int) = some ((kindN c.Arcs 2 c.Arcs.length : Nat) : Int) from vecC_idx (k := 2) (by omega),
          show idx (vecC (fun k => kindN c.Arcs k c.Arcs.length) 6) (3 : Int) = some ((kindN c.Arcs 3 c.Arcs.length : Nat) : Int) from vecC_idx (k := 3) (by omega), kindN_pos, kindN_zero]
        unfold kindB
        refine Ev.iff (fun _ => ?_) (fun _ => Ev.iff (fun _ => ?_) (fun _ => Ev.iff (fun _ => ?_) (fun _ => .done)))
        · refine Ev.bind hL3 ?_
          cases (c.Truth.all fun x => inI x 0 1)
          · exact Ev.now (by simp)
          · exact (Ev.andP (fun _ => .done)).cast (by rw [Bool.and_true])
        · refine (Ev.andP fun _ => Ev.andP fun _ => Ev.andP fun _ => .done).cast ?_
          cases (((clkN c.Pins c.Pins.length : Nat) : Int) == 1) <;> cases ((c.Truth.length : Int) == 0) <;> cases hasB c.Arcs ((1 : Nat) : Int) <;> cases hasB c.Arcs ((2 : Nat) : Int) <;> cases hasB c.Arcs ((3 : Nat) : Int) <;> rfl
        · refine (Ev.andP fun _ => Ev.andP fun _ => Ev.andP fun _ => Ev.andP fun _ => .done).cast ?_
          cases (((clkN c.Pins c.Pins.length : Nat) : Int) == 1) <;> cases ((c.Truth.length : Int) == 0) <;> cases hasB c.Arcs ((1 : Nat) : Int) <;> cases hasB c.Arcs ((2 : Nat) : Int) <;> cases hasB c.Arcs ((3 : Nat) : Int) <;> rfl

/-! ### Libraries -/

def libB (l : TLibrary) : Bool := l.Cells.all cellB && (decide (l.Cells.length ≤ 8) && namesB (l.Cells.map TCell.Name))

theorem IsLibrary_ev {l : TLibrary} (h : ok_Library l) : Ev (fun n => impl_IsLibrary n l) (libB l) := by
  have hl := h.Cells.len
  have hL : Ev (fun n => impl_IsLibrary_L1 l n ([] : List ByteArray) 0) (bif allN (fun j => cellB (gt l.Cells j)) l.Cells.length then .nxt (l.Cells.map TCell.Name, (l.Cells.length : Int)) else .ret false) := by
    refine loopN (Lf := impl_IsLibrary_L1 l) (S := fun j => (l.Cells.take j).map TCell.Name) (fun j => cellB (gt l.Cells j)) (fun n => ?_) (fun j hj hp X hX => ?_)
    · simp only [impl_IsLibrary_L1, lt_nat_f (Nat.le_refl _), cond_false, List.take_length]
    · simp only [impl_IsLibrary_L1, lt_nat_t hj, cond_true, idx_gt hj, Option.bind_some, appS_one hj hl, take_succ_gt (g := TCell.Name) hj, w64_succ (show j < 9223372036854775807 by omega)]
      exact Ev.chk1 (IsCell_ev (gt_ok h.Cells hj)) hX
  unfold impl_IsLibrary libB
  rw [all_gt]
  refine Ev.bind hL ?_
  cases allN (fun j => cellB (gt l.Cells j)) l.Cells.length
  · exact .done
  · simp only [cond_true, Bool.true_and, show decide ((l.Cells.length : Int) ≤ 8) = decide (l.Cells.length ≤ 8) from le_natB (k := 8)]
    exact Ev.andP fun _ => Ev.last (areNames_ev (okS_map h.Cells (fun x hx => hx.Name)))
end Go.Fw


namespace Go.Fw
open Go
set_option maxRecDepth 100000

theorem cellB_name {c : TCell} (h : cellB c = true) : nameB c.Name = true := by
  unfold cellB at h; rw [Bool.and_eq_true] at h; exact h.1
theorem cellB_pins {c : TCell} (h : cellB c = true) : pinsB c.Pins = true := by
  unfold cellB at h; simp only [Bool.and_eq_true] at h; exact h.2.1

theorem sIsLibrary_ev {l : TLibrary} (h : ok_Library l) : Ev (fun n => spec_IsLibrary n l) (libB l) := by
  have hl := h.Cells.len
  have hL2 : ∀ j, j < l.Cells.length → Ev (fun n => spec_IsLibrary_L2 l (j : Int) n 0) (bif allN (neB (l.Cells.map TCell.Name) j) j then .nxt (j : Int) else .ret false) := by
    intro j hj
    refine ev_all ?_ (fun i hi X hX => Ev.succ ?_)
    · exact Ev.succ (by simp only [spec_IsLibrary_L2, lt_nat_f (Nat.le_refl _), cond_false]; exact .done)
    · simp only [spec_IsLibrary_L2, lt_nat_t hi, cond_true, idx_gt (show i < l.Cells.length by omega), idx_gt hj, Option.bind_some, toList_eq_iff, w64_succ (show i < 9223372036854775807 by omega)]
      unfold neB
      rw [strAt_map (g := TCell.Name) (show i < l.Cells.length by omega), strAt_map (g := TCell.Name) hj]
      exact Ev.chkP1 (fun _ => hX)
  have hL1 : Ev (fun n => spec_IsLibrary_L1 l n 0) (bif allN (fun j => cellB (gt l.Cells j) && allN (neB (l.Cells.map TCell.Name) j) j) l.Cells.length then .nxt (l.Cells.length : Int) else .ret false) := by
    refine ev_all ?_ (fun j hj X hX => Ev.succ ?_)
    · exact Ev.succ (by simp only [spec_IsLibrary_L1, lt_nat_f (Nat.le_refl _), cond_false]; exact .done)
    · simp only [spec_IsLibrary_L1, lt_nat_t hj, cond_true, idx_gt hj, Option.bind_some, w64_succ (show j < 9223372036854775807 by omega)]
      refine Ev.chk (sIsCell_ev (gt_ok h.Cells hj)) fun _ => Ev.bind (hL2 j hj) ?_
      cases allN (neB (l.Cells.map TCell.Name) j) j
      · exact .done
      · exact hX
  have e : libB l = (allN (fun j => cellB (gt l.Cells j) && allN (neB (l.Cells.map TCell.Name) j) j) l.Cells.length && decide (l.Cells.length ≤ 8)) := by
    unfold libB namesB
    rw [all_gt, List.length_map, Bool.and_comm (decide (l.Cells.length ≤ 8)), ← Bool.and_assoc, ← allN_and]
    congr 1
    refine allN_congr (fun j hj => ?_)
    rw [strAt_map (g := TCell.Name) hj]
    cases hc : cellB (gt l.Cells j)
    · rfl
    · rw [cellB_name hc]; rfl
  rw [e]
  unfold spec_IsLibrary
  refine Ev.bind hL1 ?_
  cases allN (fun j => cellB (gt l.Cells j) && allN (neB (l.Cells.map TCell.Name) j) j) l.Cells.length
  · exact .done
  · refine Ev.now ?_
    show some (decide ((l.Cells.length : Int) ≤ ((8 : Nat) : Int))) = some (true && decide (l.Cells.length ≤ 8))
    rw [le_natB, Bool.true_and]

theorem vecC_step {c c' : Nat → Nat} {m : Nat} {x : Int} (h0 : 0 ≤ x) (h1 : x < m) (hc : c x.toNat < 9223372036854775807) (he : ∀ k, k < m → c' k = c k + (bif x == (k : Int) then 1 else 0)) :
    idx (vecC c m) x = some (c x.toNat : Int) ∧ setS (vecC c m) x (W64 ((c x.toNat : Int) + 1)) = vecC c' m := by
  have ex : x = (x.toNat : Int) := nat_of h0
  have e1 := vecC_idx (c := c) (m := m) (k := x.toNat) (by omega)
  have e2 := vecC_bump (c := c) (m := m) (k := x.toNat) hc
  rw [← ex] at e1 e2
  refine ⟨e1, e2.trans (vecC_congr (fun k hk => ?_))⟩
  rw [he k hk]
  congr 2
  rw [Bool.eq_iff_iff]; simp; omega

/-! ### Parts of a design -/

def netB (d : TDesign) (x : Int) : Bool := inI x 0 ((d.Nets.length : Int) - 1)
theorem isNet_eq {n : Nat} {d : TDesign} {x : Int} (hl : d.Nets.length ≤ 1048576) : impl_Design_isNet n d x = some (netB d x) := by
  simp only [impl_Design_isNet, impl_length_string, Option.bind_some, within_eq, w64_pred (show d.Nets.length ≤ 9223372036854775807 by omega)]; rfl
theorem l01Net_eq {n : Nat} {d : TDesign} {x : Int} (hl : d.Nets.length ≤ 1048576) : spec_l01In n x 0 (W64 ((d.Nets.length : Int) - 1)) = some (netB d x) := by
  rw [l01In_eq, w64_pred (show d.Nets.length ≤ 9223372036854775807 by omega)]; rfl

def hasNamesB (d : TDesign) : Bool := (decide (d.Instances.length ≤ 14) && (decide (d.Nets.length ≤ 30) && decide (d.Ports.length ≤ 8))) && (namesB (d.Instances.map TInstance.Name) && (namesB d.Nets && namesB (d.Ports.map TPort.Name)))

theorem hasNames_ev {d : TDesign} (h : ok_Design d) : Ev (fun n => impl_Design_hasNames n d) (hasNamesB d) := by
  have hli := h.Instances.len
  have hlp := h.Ports.len
  have hL1 : Ev (fun n => impl_Design_hasNames_L1 d n ([] : List ByteArray) 0) (d.Instances.map TInstance.Name, (d.Instances.length : Int)) := by
    refine loopF (Lf := impl_Design_hasNames_L1 d) (S := fun j => (d.Instances.take j).map TInstance.Name) (len := d.Instances.length) (fun n => ?_) (fun j hj X hX => ?_)
    · simp only [impl_Design_hasNames_L1, lt_nat_f (Nat.le_refl _), cond_false, List.take_length]
    · simpa only [impl_Design_hasNames_L1, lt_nat_t hj, cond_true, idx_gt hj, Option.bind_some, appS_one hj hli, take_succ_gt (g := TInstance.Name) hj, w64_succ (show j < 9223372036854775807 by omega)] using hX
  have hL2 : Ev (fun n => impl_Design_hasNames_L2 d n ([] : List ByteArray) 0) (d.Ports.map TPort.Name, (d.Ports.length : Int)) := by
    refine loopF (Lf := impl_Design_hasNames_L2 d) (S := fun j => (d.Ports.take j).map TPort.Name) (len := d.Ports.length) (fun n => ?_) (fun j hj X hX => ?_)
    · simp only [impl_Design_hasNames_L2, lt_nat_f (Nat.le_refl _), cond_false, List.take_length]
    · simpa only [impl_Design_hasNames_L2, lt_nat_t hj, cond_true, idx_gt hj, Option.bind_some, appS_one hj hlp, take_succ_gt (g := TPort.Name) hj, w64_succ (show j < 9223372036854775807 by omega)] using hX
  unfold impl_Design_hasNames hasNamesB
  refine Ev.bind hL1 (Ev.bind hL2 ?_)
  simp only [List.length_map]
  rw [show decide ((d.Instances.length : Int) ≤ 14) = decide (d.Instances.length ≤ 14) from le_natB (k := 14), show decide ((d.Nets.length : Int) ≤ 30) = decide (d.Nets.length ≤ 30) from le_natB (k := 30), show decide ((d.Ports.length : Int) ≤ 8) = decide (d.Ports.length ≤ 8) from le_natB (k := 8)]
  rw [Bool.and_assoc, Bool.and_assoc]
  exact Ev.andP fun _ => Ev.andP fun _ => Ev.andP fun _ => Ev.and (areNames_ev (okS_map h.Instances (fun x hx => hx.Name))) fun _ => Ev.and (areNames_ev h.Nets) fun _ => Ev.last (areNames_ev (okS_map h.Ports (fun x hx => hx.Name)))

def instB (l : TLibrary) (d : TDesign) (x : TInstance) : Bool := inI x.Cell 0 ((l.Cells.length : Int) - 1) && (((x.Nets.length : Int) == ((gt l.Cells x.Cell.toNat).Pins.length : Int)) && x.Nets.all (netB d))

theorem isInstance_ev {d : TDesign} {l : TLibrary} {x : TInstance} (hn : d.Nets.length ≤ 1048576) (hc : l.Cells.length ≤ 1048576) (hx : x.Nets.length ≤ 1048576) : Ev (fun n => impl_Design_isInstance n d l x) (instB l d x) := by
  simp only [impl_Design_isInstance, impl_length_impl_Cell, Option.bind_some, within_eq, w64_pred (show l.Cells.length ≤ 9223372036854775807 by omega)]
  unfold instB
  refine Ev.andP fun hI => ?_
  rw [inI_iff] at hI
  rw [idx_gi hI.1 (by omega)]
  simp only [Option.bind_some]
  refine Ev.andP fun _ => Ev.bind (b := x.Nets.any fun y => !netB d y) ?_ (Ev.now (by rw [not_any]))
  unfold slices_ContainsFunc_int64_impl_Design_isInstance_1
  exact Ev.bind (b := ixL (fun y => !netB d y) x.Nets) (index_ev (fin := (x.Nets.length : Int)) (Lf := slices_IndexFunc_int64_impl_Design_isInstance_1_L1 x.Nets d) (pf := fun n y => impl_Design_isInstance_1 n y d) (fun y _ => ⟨0, fun n _ => by simp only [impl_Design_isInstance_1, isNet_eq hn, Option.bind_some]⟩)
      (fun n => by simp only [slices_IndexFunc_int64_impl_Design_isInstance_1_L1, lt_nat_f (Nat.le_refl _), cond_false])
      (fun n j y hx => by
        have hj := (List.getElem?_eq_some_iff.1 hx).1
        simp only [slices_IndexFunc_int64_impl_Design_isInstance_1_L1, lt_nat_t hj, cond_true, idx_at hx, Option.bind_some, w64_succ (show j < 9223372036854775807 by omega)])
      (fun n => by unfold slices_IndexFunc_int64_impl_Design_isInstance_1; congr 1; funext o; cases o <;> rfl)) (Ev.now (by rw [ixL_ge]))

def portB (d : TDesign) (p : TPort) : Bool := inI p.Dir 1 2 && netB d p.Net
theorem dir_eq {x : Int} : inI x 1 2 = ((x == 1) || (x == 2)) := by
  unfold inI; rw [Bool.eq_iff_iff]; simp; omega

/-- The net that an instance drives. -/
def lastN (x : TInstance) : Int := at0 x.Nets (x.Nets.length - 1)
theorem idx_last {x : TInstance} (h1 : 1 ≤ x.Nets.length) (h2 : x.Nets.length ≤ 1048576) : idx x.Nets (W64 ((x.Nets.length : Int) - 1)) = some (lastN x) := by
  rw [w64_pred (by omega), show ((x.Nets.length : Int) - 1) = ((x.Nets.length - 1 : Nat) : Int) by omega, idx_at0 (by omega)]; rfl
theorem netB_last {d : TDesign} {x : TInstance} (h1 : 1 ≤ x.Nets.length) (h : x.Nets.all (netB d) = true) : 0 ≤ lastN x ∧ lastN x < d.Nets.length := by
  rw [all_allN (d := 0), allN_iff] at h
  have := h (x.Nets.length - 1) (by omega)
  unfold netB at this
  rw [inI_iff] at this
  unfold lastN at0
  omega
theorem instB_last {l : TLibrary} {d : TDesign} {x : TInstance} (hl : libB l = true) (h : instB l d x = true) : 1 ≤ x.Nets.length ∧ 0 ≤ lastN x ∧ lastN x < d.Nets.length := by
  unfold instB at h
  simp only [Bool.and_eq_true, inI_iff, beq_iff_eq] at h
  obtain ⟨h1, h2, h3⟩ := h
  unfold libB at hl
  simp only [Bool.and_eq_true] at hl
  have hc := hl.1
  rw [all_gt, allN_iff] at hc
  have := pinsB_last (cellB_pins (hc x.Cell.toNat (by omega)))
  have h4 : 1 ≤ x.Nets.length := by omega
  exact ⟨h4, netB_last h4 h3⟩

def drvI (d : TDesign) (k j : Nat) : Nat := cntP (fun i => lastN (gt d.Instances i) == (k : Int)) j
def drvP (d : TDesign) (k j : Nat) : Nat := cntP (fun i => ((gt d.Ports i).Dir == 1) && ((gt d.Ports i).Net == (k : Int))) j
def drvB (d : TDesign) : Bool := allN (fun k => ((drvI d k d.Instances.length + drvP d k d.Ports.length : Nat) : Int) == 1) d.Nets.length
def designB (l : TLibrary) (d : TDesign) : Bool := (libB l && hasNamesB d) && (d.Instances.all (instB l d) && (d.Ports.all (portB d) && drvB d))

theorem drvI_step {d : TDesign} {k j : Nat} : drvI d k (j + 1) = drvI d k j + (bif lastN (gt d.Instances j) == (k : Int) then 1 else 0) := rfl
theorem drvP_step {d : TDesign} {k j : Nat} : drvP d k (j + 1) = drvP d k j + (bif ((gt d.Ports j).Dir == 1) && ((gt d.Ports j).Net == (k : Int)) then 1 else 0) := rfl

theorem IsDesign_ev {l : TLibrary} {d : TDesign} (h : ok_Library l) (hd : ok_Design d) : Ev (fun n => impl_IsDesign n l d) (designB l d) := by
  have hli := hd.Instances.len
  have hlp := hd.Ports.len
  have hln := hd.Nets.len
  have hlc := h.Cells.len
  unfold impl_IsDesign designB
  refine Ev.guardB (Ev.or (IsLibrary_ev h) fun _ => Ev.neg (hasNames_ev hd)) fun hb => ?_
  rw [Bool.and_eq_true] at hb
  rw [vecC_zero (m := d.Nets.length) (by omega)]
  simp only [Option.bind_some]
  have hL1 : Ev (fun n => impl_IsDesign_L1 l d n (vecC (fun _ => 0) d.Nets.length) 0) (bif allN (fun j => instB l d (gt d.Instances j)) d.Instances.length then .nxt (vecC (fun k => drvI d k d.Instances.length) d.Nets.length, (d.Instances.length : Int)) else .ret false) := by
    refine loopN (Lf := impl_IsDesign_L1 l d) (S := fun j => vecC (fun k => drvI d k j) d.Nets.length) (fun j => instB l d (gt d.Instances j)) (fun n => ?_) (fun j hj hp X hX => ?_)
    · simp only [impl_IsDesign_L1, lt_nat_f (Nat.le_refl _), cond_false]
    · simp only [impl_IsDesign_L1, lt_nat_t hj, cond_true, idx_gt hj, Option.bind_some, w64_succ (show j < 9223372036854775807 by omega)]
      have hxl := (gt_ok hd.Instances hj).Nets.len
      refine Ev.chk1 (isInstance_ev hln hlc hxl) fun hi => ?_
      obtain ⟨h1, h2, h3⟩ := instB_last hb.1 hi
      have hc : drvI d (lastN (gt d.Instances j)).toNat j ≤ j := cntP_le
      obtain ⟨e1, e2⟩ := vecC_step (c := fun k => drvI d k j) (c' := fun k => drvI d k (j + 1)) h2 h3 (by show drvI _ _ _ < _; omega) (fun k _ => drvI_step)
      simp only [idx_last h1 hxl, Option.bind_some, e1, e2]
      exact hX hi
  have hL2 : Ev (fun n => impl_IsDesign_L2 d n (vecC (fun k => drvI d k d.Instances.length) d.Nets.length) 0) (bif allN (fun j => portB d (gt d.Ports j)) d.Ports.length then .nxt (vecC (fun k => drvI d k d.Instances.length + drvP d k d.Ports.length) d.Nets.length, (d.Ports.length : Int)) else .ret false) := by
    refine loopN (Lf := impl_IsDesign_L2 d) (S := fun j => vecC (fun k => drvI d k d.Instances.length + drvP d k j) d.Nets.length) (fun j => portB d (gt d.Ports j)) (fun n => ?_) (fun j hj hp X hX => ?_)
    · simp only [impl_IsDesign_L2, lt_nat_f (Nat.le_refl _), cond_false]
    · simp only [impl_IsDesign_L2, lt_nat_t hj, cond_true, idx_gt hj, Option.bind_some, isNet_eq hln, bne, w64_succ (show j < 9223372036854775807 by omega)]
      refine Ev.chkT1 ?_ fun hi => ?_
      · unfold portB
        rw [dir_eq]
        cases ((gt d.Ports j).Dir == 1) <;> cases ((gt d.Ports j).Dir == 2) <;> exact .done
      · have hX := hX hi
        unfold portB netB at hi
        simp only [Bool.and_eq_true, inI_iff] at hi
        have hc1 : drvI d (gt d.Ports j).Net.toNat d.Instances.length ≤ d.Instances.length := cntP_le
        have hc2 : drvP d (gt d.Ports j).Net.toNat j ≤ j := cntP_le
        cases h1 : ((gt d.Ports j).Dir == 1)
        · have : vecC (fun k => drvI d k d.Instances.length + drvP d k (j + 1)) d.Nets.length = vecC (fun k => drvI d k d.Instances.length + drvP d k j) d.Nets.length := by
            refine vecC_congr (fun k _ => ?_)
            rw [drvP_step, h1]; rfl
          rw [this] at hX
          exact hX
        · obtain ⟨e1, e2⟩ := vecC_step (c := fun k => drvI d k d.Instances.length + drvP d k j) (c' := fun k => drvI d k d.Instances.length + drvP d k (j + 1)) (x := (gt d.Ports j).Net) (m := d.Nets.length) hi.2.1 (by omega) (by show drvI _ _ _ + drvP _ _ _ < _; omega) (fun k _ => by rw [drvP_step, h1, Bool.true_and]; omega)
          simp only [cond_true, Option.bind_some, e1, e2]
          exact hX
  rw [all_gt, all_gt]
  refine Ev.bind hL1 ?_
  cases allN (fun j => instB l d (gt d.Instances j)) d.Instances.length
  · exact .done
  · refine Ev.bind hL2 ?_
    cases allN (fun j => portB d (gt d.Ports j)) d.Ports.length
    · exact .done
    · simp only [cond_true, Bool.true_and]
      unfold slices_ContainsFunc_int_impl_IsDesign_1
      refine Ev.bind (b := (vecC (fun k => drvI d k d.Instances.length + drvP d k d.Ports.length) d.Nets.length).any fun x => !(x == 1)) (Ev.bind (b := ixL (fun x => !(x == 1)) (vecC (fun k => drvI d k d.Instances.length + drvP d k d.Ports.length) d.Nets.length)) (index_ev (fin := (((vecC (fun k => drvI d k d.Instances.length + drvP d k d.Ports.length) d.Nets.length).length : Nat) : Int)) (Lf := slices_IndexFunc_int_impl_IsDesign_1_L1 (vecC (fun k => drvI d k d.Instances.length + drvP d k d.Ports.length) d.Nets.length)) (pf := fun n y => impl_IsDesign_1 n y) (fun y _ => .done)
        (fun n => by simp only [slices_IndexFunc_int_impl_IsDesign_1_L1, lt_nat_f (Nat.le_refl _), cond_false])
        (fun n j y hx => by
          have hj := (List.getElem?_eq_some_iff.1 hx).1
          have : j < d.Nets.length := by rw [vecC_len] at hj; exact hj
          simp only [slices_IndexFunc_int_impl_IsDesign_1_L1, lt_nat_t hj, cond_true, idx_at hx, Option.bind_some, w64_succ (show j < 9223372036854775807 by omega)])
        (fun n => by unfold slices_IndexFunc_int_impl_IsDesign_1; congr 1; funext o; cases o <;> rfl)) (Ev.now (by rw [ixL_ge]))) (Ev.now ?_)
      rw [not_any, all_allN (d := 0), vecC_len]
      unfold drvB
      congr 1
      exact allN_congr (fun k hk => by
        have := vecC_at0 (c := fun k => drvI d k d.Instances.length + drvP d k d.Ports.length) hk
        unfold at0 at this
        rw [this])

theorem l05Parts_ev {l : TLibrary} {d : TDesign} (h : ok_Library l) (hd : ok_Design d) : Ev (fun n => spec_l05Parts n l d) (d.Instances.all (instB l d) && d.Ports.all (portB d)) := by
  have hli := hd.Instances.len
  have hlp := hd.Ports.len
  have hln := hd.Nets.len
  have hlc := h.Cells.len
  have hL2 : ∀ x : TInstance, x.Nets.length ≤ 1048576 → Ev (fun n => spec_l05Parts_L2 d x n 0) (bif x.Nets.all (netB d) then .nxt (x.Nets.length : Int) else .ret false) := fun x hx =>
    all_loop (fun n => by simp only [spec_l05Parts_L2, lt_nat_f (Nat.le_refl _), cond_false]) (fun j hj X hX => by
      simp only [spec_l05Parts_L2, lt_nat_t hj, cond_true, idx_lt hj, Option.bind_some, l01Net_eq hln, w64_succ (show j < 9223372036854775807 by omega), bnot_bif]
      exact Ev.okP1 fun _ => hX)
  have hL1 : Ev (fun n => spec_l05Parts_L1 l d n 0) (bif allN (fun j => instB l d (gt d.Instances j)) d.Instances.length then .nxt (d.Instances.length : Int) else .ret false) := by
    refine ev_all ?_ (fun j hj X hX => Ev.succ ?_)
    · exact Ev.succ (by simp only [spec_l05Parts_L1, lt_nat_f (Nat.le_refl _), cond_false]; exact .done)
    · simp only [spec_l05Parts_L1, lt_nat_t hj, cond_true, idx_gt hj, Option.bind_some, l01In_eq, w64_pred (show l.Cells.length ≤ 9223372036854775807 by omega), w64_succ (show j < 9223372036854775807 by omega), bne]
      have hxl := (gt_ok hd.Instances hj).Nets.len
      unfold instB
      rw [← Bool.and_assoc]
      refine Ev.chkT ?_ fun _ => Ev.bind (hL2 _ hxl) ?_
      · simp only [bnot_bif]
        refine Ev.orBP fun hI => ?_
        rw [inI_iff] at hI
        rw [idx_gi hI.1 (by omega)]
        exact .done
      · cases (gt d.Instances j).Nets.all (netB d)
        · exact .done
        · exact hX
  have hL3 : Ev (fun n => spec_l05Parts_L3 d n 0) (bif allN (fun j => portB d (gt d.Ports j)) d.Ports.length then .nxt (d.Ports.length : Int) else .ret false) := by
    refine ev_all ?_ (fun j hj X hX => Ev.succ ?_)
    · exact Ev.succ (by simp only [spec_l05Parts_L3, lt_nat_f (Nat.le_refl _), cond_false]; exact .done)
    · simp only [spec_l05Parts_L3, lt_nat_t hj, cond_true, idx_gt hj, Option.bind_some, l01Net_eq hln, w64_succ (show j < 9223372036854775807 by omega)]
      simp only [l01In_eq, Option.bind_some, bnot_bif]
      unfold portB
      exact Ev.okP fun _ => Ev.okP1 fun _ => hX
  unfold spec_l05Parts
  rw [all_gt, all_gt]
  refine Ev.bind hL1 ?_
  cases allN (fun j => instB l d (gt d.Instances j)) d.Instances.length
  · exact .done
  · refine Ev.bind hL3 ?_
    cases allN (fun j => portB d (gt d.Ports j)) d.Ports.length <;> exact .done

theorem sIsDesign_ev {l : TLibrary} {d : TDesign} (h : ok_Library l) (hd : ok_Design d) : Ev (fun n => spec_IsDesign n l d) (designB l d) := by
  have hli := hd.Instances.len
  have hlp := hd.Ports.len
  have hln := hd.Nets.len
  have hlc := h.Cells.len
  have e : designB l d = ((libB l && (decide (d.Instances.length ≤ 14) && (decide (d.Nets.length ≤ 30) && (decide (d.Ports.length ≤ 8) && (d.Instances.all (instB l d) && d.Ports.all (portB d)))))) && ((namesB (d.Instances.map TInstance.Name) && (namesB (d.Ports.map TPort.Name) && namesB d.Nets)) && drvB d)) := by
    unfold designB hasNamesB
    generalize libB l = a1
    generalize decide (d.Instances.length ≤ 14) = a2
    generalize decide (d.Nets.length ≤ 30) = a3
    generalize decide (d.Ports.length ≤ 8) = a4
    generalize d.Instances.all (instB l d) = a5
    generalize d.Ports.all (portB d) = a6
    generalize namesB (d.Instances.map TInstance.Name) = a7
    generalize namesB (d.Ports.map TPort.Name) = a8
    generalize namesB d.Nets = a9
    generalize drvB d = a10
    rw [Bool.eq_iff_iff]
    simp only [Bool.and_eq_true]
    constructor
    · rintro ⟨⟨h1, ⟨h2, h3, h4⟩, h7, h9, h8⟩, h5, h6, h10⟩
      exact ⟨⟨h1, h2, h3, h4, h5, h6⟩, ⟨h7, h8, h9⟩, h10⟩
    · rintro ⟨⟨h1, h2, h3, h4, h5, h6⟩, ⟨h7, h8, h9⟩, h10⟩
      exact ⟨⟨h1, ⟨h2, h3, h4⟩, h7, h9, h8⟩, h5, h6, h10⟩
  rw [e]
  unfold spec_IsDesign
  refine Ev.guardB ?_ fun hb => ?_
  · refine Ev.or (sIsLibrary_ev h) fun _ => ?_
    rw [show decide ((d.Instances.length : Int) > 14) = !decide (d.Instances.length ≤ 14) by rw [Bool.eq_iff_iff]; simp; omega, show decide ((d.Nets.length : Int) > 30) = !decide (d.Nets.length ≤ 30) by rw [Bool.eq_iff_iff]; simp; omega, show decide ((d.Ports.length : Int) > 8) = !decide (d.Ports.length ≤ 8) by rw [Bool.eq_iff_iff]; simp; omega]
    simp only [bnot_bif]
    exact Ev.orBP fun _ => Ev.orBP fun _ => Ev.orBP fun _ => Ev.neg (l05Parts_ev h hd)
  · simp only [Bool.and_eq_true] at hb
    obtain ⟨hlib, _, _, _, hI, hP⟩ := hb
    rw [all_gt, allN_iff] at hI hP
    have hL1 : Ev (fun n => spec_IsDesign_L1 d n ([] : List ByteArray) 0) (d.Instances.map TInstance.Name, (d.Instances.length : Int)) := by
      refine loopF (Lf := spec_IsDesign_L1 d) (S := fun j => (d.Instances.take j).map TInstance.Name) (len := d.Instances.length) (fun n => ?_) (fun j hj X hX => ?_)
      · simp only [spec_IsDesign_L1, lt_nat_f (Nat.le_refl _), cond_false, List.take_length]
      · simpa only [spec_IsDesign_L1, lt_nat_t hj, cond_true, idx_gt hj, Option.bind_some, appS_one hj hli, take_succ_gt (g := TInstance.Name) hj, w64_succ (show j < 9223372036854775807 by omega)] using hX
    have hL2 : Ev (fun n => spec_IsDesign_L2 d n ([] : List ByteArray) 0) (d.Ports.map TPort.Name, (d.Ports.length : Int)) := by
      refine loopF (Lf := spec_IsDesign_L2 d) (S := fun j => (d.Ports.take j).map TPort.Name) (len := d.Ports.length) (fun n => ?_) (fun j hj X hX => ?_)
      · simp only [spec_IsDesign_L2, lt_nat_f (Nat.le_refl _), cond_false, List.take_length]
      · simpa only [spec_IsDesign_L2, lt_nat_t hj, cond_true, idx_gt hj, Option.bind_some, appS_one hj hlp, take_succ_gt (g := TPort.Name) hj, w64_succ (show j < 9223372036854775807 by omega)] using hX
    have hL3 : Ev (fun n => spec_IsDesign_L3 d n (vecC (fun _ => 0) d.Nets.length) 0) (vecC (fun k => drvI d k d.Instances.length) d.Nets.length, (d.Instances.length : Int)) := by
      refine loopF (Lf := spec_IsDesign_L3 d) (S := fun j => vecC (fun k => drvI d k j) d.Nets.length) (len := d.Instances.length) (fun n => ?_) (fun j hj X hX => ?_)
      · simp only [spec_IsDesign_L3, lt_nat_f (Nat.le_refl _), cond_false]
      · have hxl := (gt_ok hd.Instances hj).Nets.len
        obtain ⟨h1, h2, h3⟩ := instB_last hlib (hI j hj)
        have hc : drvI d (lastN (gt d.Instances j)).toNat j ≤ j := cntP_le
        obtain ⟨e1, e2⟩ := vecC_step (c := fun k => drvI d k j) (c' := fun k => drvI d k (j + 1)) h2 h3 (by show drvI _ _ _ < _; omega) (fun k _ => drvI_step)
        simpa only [spec_IsDesign_L3, lt_nat_t hj, cond_true, idx_gt hj, Option.bind_some, w64_succ (show j < 9223372036854775807 by omega), idx_last h1 hxl, e1, e2] using hX
    have hL4 : Ev (fun n => spec_IsDesign_L4 d n (vecC (fun k => drvI d k d.Instances.length) d.Nets.length) 0) (vecC (fun k => drvI d k d.Instances.length + drvP d k d.Ports.length) d.Nets.length, (d.Ports.length : Int)) := by
      refine loopF (Lf := spec_IsDesign_L4 d) (S := fun j => vecC (fun k => drvI d k d.Instances.length + drvP d k j) d.Nets.length) (len := d.Ports.length) (fun n => ?_) (fun j hj X hX => ?_)
      · simp only [spec_IsDesign_L4, lt_nat_f (Nat.le_refl _), cond_false]
      · have hi := hP j hj
        unfold portB netB at hi
        simp only [Bool.and_eq_true, inI_iff] at hi
        have hc1 : drvI d (gt d.Ports j).Net.toNat d.Instances.length ≤ d.Instances.length := cntP_le
        have hc2 : drvP d (gt d.Ports j).Net.toNat j ≤ j := cntP_le
        simp only [spec_IsDesign_L4, lt_nat_t hj, cond_true, idx_gt hj, Option.bind_some, w64_succ (show j < 9223372036854775807 by omega)]
        cases h1 : ((gt d.Ports j).Dir == 1)
        · have : vecC (fun k => drvI d k d.Instances.length + drvP d k (j + 1)) d.Nets.length = vecC (fun k => drvI d k d.Instances.length + drvP d k j) d.Nets.length := by
            refine vecC_congr (fun k _ => ?_)
            rw [drvP_step, h1]; rfl
          rw [this] at hX
          exact hX
        · obtain ⟨e1, e2⟩ := vecC_step (c := fun k => drvI d k d.Instances.length + drvP d k j) (c' := fun k => drvI d k d.Instances.length + drvP d k (j + 1)) (x := (gt d.Ports j).Net) (m := d.Nets.length) hi.2.1 (by omega) (by show drvI _ _ _ + drvP _ _ _ < _; omega) (fun k _ => by rw [drvP_step, h1, Bool.true_and]; omega)
          simp only [cond_true, Option.bind_some, e1, e2]
          exact hX
    have hL5 : Ev (fun n => spec_IsDesign_L5 (vecC (fun _ => 0) d.Nets.length) (vecC (fun k => drvI d k d.Instances.length + drvP d k d.Ports.length) d.Nets.length) n 0) (bif drvB d then .nxt (d.Nets.length : Int) else .ret false) := by
      refine ev_all ?_ (fun j hj X hX => Ev.succ ?_)
      · exact Ev.succ (by simp only [spec_IsDesign_L5, vecC_len, lt_nat_f (Nat.le_refl _), cond_false]; exact .done)
      · simp only [spec_IsDesign_L5, vecC_len, lt_nat_t hj, cond_true, vecC_idx hj, Option.bind_some, bne, bnot_bif, w64_succ (show j < 9223372036854775807 by omega)]
        exact Ev.okP1 fun _ => hX
    refine Ev.bind hL1 (Ev.bind hL2 ?_)
    refine Ev.guardB (Ev.or (l05Names_ev (okS_map hd.Instances (fun x hx => hx.Name))) fun _ => Ev.or (l05Names_ev (okS_map hd.Ports (fun x hx => hx.Name))) fun _ => Ev.neg (l05Names_ev hd.Nets)) fun _ => ?_
    rw [vecC_zero (m := d.Nets.length) (by omega)]
    simp only [Option.bind_some]
    refine Ev.bind hL3 (Ev.bind hL4 (Ev.bind hL5 ?_))
    cases drvB d <;> exact .done
end Go.Fw


namespace Go.Fw
open Go
set_option maxRecDepth 100000

theorem lt_natB {m k : Nat} : decide ((m : Int) < (k : Int)) = !decide (k ≤ m) := by rw [Bool.eq_iff_iff]; simp
theorem gt_natB {m k : Nat} : decide ((m : Int) > (k : Int)) = !decide (m ≤ k) := by rw [Bool.eq_iff_iff]; simp
/-! ### Wires -/

def treeB (w : TWire) (j : Nat) : Bool := bif decide (j = 0) then (at0 w.Parent j == -1) && (at0 w.Res j == 0) else inI (at0 w.Parent j) 0 ((j : Int) - 1)
def wireB (w : TWire) (s : Int) : Bool :=
  lenB w.Parent 1 8 && (((w.Res.length : Int) == (w.Parent.length : Int)) && (((w.Cap.length : Int) == (w.Parent.length : Int)) && (allN (treeB w) w.Parent.length &&
    ((w.Res.all fun x => inI x 0 1000) && ((w.Cap.all fun x => inI x 0 500) && (((w.Sink.length : Int) == s) && (w.Sink.all fun x => inI x 0 ((w.Parent.length : Int) - 1))))))))

theorem isTree_ev {w : TWire} (hl : w.Parent.length ≤ 1048576) (hr : ((w.Res.length : Int) == (w.Parent.length : Int)) = true) : Ev (fun n => impl_Wire_isTree n w) (allN (treeB w) w.Parent.length) := by
  rw [beq_iff_eq] at hr
  have hL : Ev (fun n => impl_Wire_isTree_L1 w n 0) (bif allN (treeB w) w.Parent.length then .nxt (w.Parent.length : Int) else .ret false) := by
    refine ev_all ?_ (fun j hj X hX => Ev.succ ?_)
    · exact Ev.succ (by simp only [impl_Wire_isTree_L1, lt_nat_f (Nat.le_refl _), cond_false]; exact .done)
    · simp only [impl_Wire_isTree_L1, lt_nat_t hj, cond_true, idx_at0 hj, Option.bind_some, within_eq, w64_succ (show j < 9223372036854775807 by omega), bne, bnot_bif]
      unfold treeB
      by_cases h0 : j = 0
      · subst h0
        rw [show idx w.Res (0 : Int) = some (at0 w.Res 0) from idx_at0 (j := 0) (by omega)]
        simp only [Option.bind_some]
        refine Ev.tt (by simp) (Ev.okP fun _ => Ev.okP1 fun _ => Ev.ff (by simp) hX)
      · have e1 : decide (j = 0) = false := by simp; omega
        have e2 : ((j : Int) == 0) = false := by simp; omega
        have e3 : decide ((j : Int) > 0) = true := by simp; omega
        rw [e1, e2, e3, w64_pred (show j ≤ 9223372036854775807 by omega)]
        simp only [cond_false, cond_true]
        exact Ev.okP1 fun _ => hX
  unfold impl_Wire_isTree
  refine Ev.bind hL ?_
  cases allN (treeB w) w.Parent.length <;> exact .done

theorem IsWire_ev {w : TWire} {s : Int} (h : ok_Wire w) : Ev (fun n => impl_IsWire n w s) (wireB w s) := by
  have hl := h.Parent.len
  simp only [impl_IsWire, impl_length_int64, Option.bind_some, within_eq, w64_pred (show w.Parent.length ≤ 9223372036854775807 by omega)]
  unfold wireB
  rw [show inI (w.Parent.length : Int) 1 8 = lenB w.Parent 1 8 from lenB_in (lo := 1) (hi := 8)]
  exact Ev.andP fun _ => Ev.andP fun hr => Ev.andP fun _ => Ev.and (isTree_ev hl hr) fun _ => Ev.and (areWithin_ev h.Res.len) fun _ => Ev.and (areWithin_ev h.Cap.len) fun _ => Ev.andP fun _ => Ev.last (areWithin_ev h.Sink.len)

theorem sIsWire_ev {w : TWire} {s : Int} (h : ok_Wire w) : Ev (fun n => spec_IsWire n w s) (wireB w s) := by
  have hl := h.Parent.len
  have hsl := h.Sink.len
  have e : wireB w s = ((decide (1 ≤ w.Parent.length) && (decide (w.Parent.length ≤ 8) && (((w.Res.length : Int) == (w.Parent.length : Int)) && (((w.Cap.length : Int) == (w.Parent.length : Int)) && ((w.Sink.length : Int) == s))))) && (allN (fun j => (inI (at0 w.Cap j) 0 500 && inI (at0 w.Res j) 0 1000) && treeB w j) w.Parent.length && (w.Sink.all fun x => inI x 0 ((w.Parent.length : Int) - 1)))) := by
    unfold wireB lenB
    cases h1 : ((w.Res.length : Int) == (w.Parent.length : Int))
    · simp
    · cases h2 : ((w.Cap.length : Int) == (w.Parent.length : Int))
      · simp
      · rw [beq_iff_eq] at h1 h2
        rw [allN_and, allN_and]
        rw [all_allN (p := fun x => inI x 0 1000) (d := 0), all_allN (p := fun x => inI x 0 500) (d := 0), show w.Res.length = w.Parent.length by omega, show w.Cap.length = w.Parent.length by omega]
        show _ = (_ && ((allN (fun j => inI (w.Cap.getD j 0) 0 500) _ && allN (fun j => inI (w.Res.getD j 0) 0 1000) _ && _) && _))
        generalize allN (fun j => inI (w.Cap.getD j 0) 0 500) w.Parent.length = a1
        generalize allN (fun j => inI (w.Res.getD j 0) 0 1000) w.Parent.length = a2
        generalize allN (fun j => treeB w j) w.Parent.length = a3
        generalize ((w.Sink.length : Int) == s) = a4
        generalize decide (1 ≤ w.Parent.length) = a5
        generalize decide (w.Parent.length ≤ 8) = a6
        generalize (w.Sink.all fun x => inI x 0 ((w.Parent.length : Int) - 1)) = a7
        cases a1 <;> cases a2 <;> cases a3 <;> cases a4 <;> cases a5 <;> cases a6 <;> rfl
  rw [e]
  unfold spec_IsWire
  refine Ev.guardB ?_ fun hb => ?_
  · rw [show decide ((w.Parent.length : Int) < 1) = !decide (1 ≤ w.Parent.length) from lt_natB (k := 1), show decide ((w.Parent.length : Int) > 8) = !decide (w.Parent.length ≤ 8) from gt_natB (k := 8)]
    simp only [bne, bnot_bif]
    exact Ev.orBP fun _ => Ev.orBP fun _ => Ev.orBP fun _ => Ev.orBP fun _ => .done
  · simp only [Bool.and_eq_true, beq_iff_eq] at hb
    have hL1 : Ev (fun n => spec_IsWire_L1 w n 0) (bif allN (fun j => (inI (at0 w.Cap j) 0 500 && inI (at0 w.Res j) 0 1000) && treeB w j) w.Parent.length then .nxt (w.Parent.length : Int) else .ret false) := by
      refine ev_all ?_ (fun j hj X hX => Ev.succ ?_)
      · exact Ev.succ (by simp only [spec_IsWire_L1, lt_nat_f (Nat.le_refl _), cond_false]; exact .done)
      · simp only [spec_IsWire_L1, lt_nat_t hj, cond_true, idx_at0 hj, idx_at0 (show j < w.Cap.length by omega), idx_at0 (show j < w.Res.length by omega), Option.bind_some, l01In_eq, w64_succ (show j < 9223372036854775807 by omega), bne, bnot_bif]
        refine Ev.chkT (Ev.orBP fun _ => .done) fun _ => ?_
        unfold treeB
        by_cases h0 : j = 0
        · subst h0
          refine Ev.tt (by simp) (Ev.okP fun _ => Ev.okP1 fun _ => Ev.ff (by simp) hX)
        · have e1 : decide (j = 0) = false := by simp; omega
          have e2 : ((j : Int) == 0) = false := by simp; omega
          have e3 : decide ((j : Int) > 0) = true := by simp; omega
          rw [e1, e2, e3, w64_pred (show j ≤ 9223372036854775807 by omega)]
          simp only [cond_false, cond_true]
          exact Ev.okP1 fun _ => hX
    have hL2 : Ev (fun n => spec_IsWire_L2 w n 0) (bif (w.Sink.all fun x => inI x 0 ((w.Parent.length : Int) - 1)) then .nxt (w.Sink.length : Int) else .ret false) :=
      all_loop (fun n => by simp only [spec_IsWire_L2, lt_nat_f (Nat.le_refl _), cond_false]) (fun j hj X hX => by
        simp only [spec_IsWire_L2, lt_nat_t hj, cond_true, idx_lt hj, Option.bind_some, l01In_eq, w64_pred (show w.Parent.length ≤ 9223372036854775807 by omega), w64_succ (show j < 9223372036854775807 by omega), bnot_bif]
        exact Ev.okP1 fun _ => hX)
    refine Ev.bind hL1 ?_
    cases allN (fun j => (inI (at0 w.Cap j) 0 500 && inI (at0 w.Res j) 0 1000) && treeB w j) w.Parent.length
    · exact .done
    · refine Ev.bind hL2 ?_
      cases (w.Sink.all fun x => inI x 0 ((w.Parent.length : Int) - 1)) <;> exact .done

/-! ### Places -/

instance : Inhabited Tplace := ⟨⟨0, 0, 0, false⟩⟩
instance : Inhabited Tl05Place := ⟨⟨0, 0, 0, false⟩⟩
def toSp (p : Tplace) : Tl05Place := ⟨p.instance_, p.pin, p.net, p.drives⟩
def plX (i : Nat) (x : TInstance) (j : Nat) : List Tplace := (List.range j).map fun (k : Nat) => ⟨(i : Int), (k : Int), at0 x.Nets k, decide (k + 1 = x.Nets.length)⟩
def plI (d : TDesign) (j : Nat) : List Tplace := (List.range j).flatMap fun (i : Nat) => plX i (gt d.Instances i) (gt d.Instances i).Nets.length
def plP (d : TDesign) (j : Nat) : List Tplace := (List.range j).map fun (i : Nat) => ⟨-1, (i : Int), (gt d.Ports i).Net, (gt d.Ports i).Dir == 1⟩
def places (d : TDesign) : List Tplace := plI d d.Instances.length ++ plP d d.Ports.length

theorem plX_succ {i : Nat} {x : TInstance} {j : Nat} : plX i x (j + 1) = plX i x j ++ [⟨(i : Int), (j : Int), at0 x.Nets j, decide (j + 1 = x.Nets.length)⟩] := by
  unfold plX; rw [List.range_succ, List.map_append]; rfl
theorem plI_succ {d : TDesign} {j : Nat} : plI d (j + 1) = plI d j ++ plX j (gt d.Instances j) (gt d.Instances j).Nets.length := by
  unfold plI; rw [List.range_succ, List.flatMap_append]; simp
theorem plP_succ {d : TDesign} {j : Nat} : plP d (j + 1) = plP d j ++ [⟨-1, (j : Int), (gt d.Ports j).Net, (gt d.Ports j).Dir == 1⟩] := by
  unfold plP; rw [List.range_succ, List.map_append]; rfl
theorem plX_len {i : Nat} {x : TInstance} {j : Nat} : (plX i x j).length = j := by simp [plX]
theorem plP_len {d : TDesign} {j : Nat} : (plP d j).length = j := by simp [plP]

/-- What a valid design says of its sizes. -/
structure smallD (d : TDesign) : Prop where
  ni : d.Instances.length ≤ 14
  nn : d.Nets.length ≤ 30
  np : d.Ports.length ≤ 8
  nx : ∀ i, i < d.Instances.length → 2 ≤ (gt d.Instances i).Nets.length ∧ (gt d.Instances i).Nets.length ≤ 5

theorem designB_small {l : TLibrary} {d : TDesign} (h : designB l d = true) : smallD d := by
  unfold designB hasNamesB libB at h
  simp only [Bool.and_eq_true, decide_eq_true_eq] at h
  obtain ⟨⟨⟨hc, _⟩, ⟨h1, h2, h3⟩, _⟩, hI, _⟩ := h
  refine ⟨h1, h2, h3, fun i hi => ?_⟩
  rw [all_gt, allN_iff] at hI hc
  have := hI i hi
  unfold instB at this
  simp only [Bool.and_eq_true, inI_iff, beq_iff_eq] at this
  have h5 := pinsB_last (cellB_pins (hc (gt d.Instances i).Cell.toNat (by omega)))
  omega
theorem plI_len {d : TDesign} (h : smallD d) {j : Nat} (hj : j ≤ d.Instances.length) : (plI d j).length ≤ 5 * j := by
  induction j with
  | zero => exact Nat.le_refl _
  | succ j ih =>
    rw [plI_succ, List.length_append, plX_len]
    have := ih (by omega)
    have := h.nx j (by omega)
    omega
theorem places_len {d : TDesign} (h : smallD d) : (places d).length ≤ 78 := by
  unfold places
  rw [List.length_append, plP_len]
  have := plI_len h (Nat.le_refl _)
  have := h.ni
  have := h.np
  omega

theorem places_ev {d : TDesign} (h : smallD d) : Ev (fun n => impl_Design_places n d) (places d) := by
  have h1 := h.ni
  have h2 := h.np
  have hL2 : ∀ i, i < d.Instances.length → ∀ pre : List Tplace, pre.length ≤ 100 → Ev (fun n => impl_Design_places_L2 (i : Int) (gt d.Instances i) n pre 0) (pre ++ plX i (gt d.Instances i) (gt d.Instances i).Nets.length, ((gt d.Instances i).Nets.length : Int)) := by
    intro i hi pre hp
    have h5 := h.nx i hi
    have := loopF (Lf := impl_Design_places_L2 (i : Int) (gt d.Instances i)) (S := fun j => pre ++ plX i (gt d.Instances i) j) (len := (gt d.Instances i).Nets.length) (fin := (pre ++ plX i (gt d.Instances i) (gt d.Instances i).Nets.length, ((gt d.Instances i).Nets.length : Int))) (fun n => by
        simp only [impl_Design_places_L2, lt_nat_f (Nat.le_refl _), cond_false])
      (fun j hj X hX => by
        have hc : (pre ++ plX i (gt d.Instances i) j).length + [(⟨(i : Int), (j : Int), at0 (gt d.Instances i).Nets j, decide (j + 1 = (gt d.Instances i).Nets.length)⟩ : Tplace)].length ≤ 2147483648 := by
          rw [List.length_append, plX_len]; simp; omega
        simp only [impl_Design_places_L2, lt_nat_t hj, cond_true, idx_at0 hj, Option.bind_some, lastE hj (show (gt d.Instances i).Nets.length ≤ 1048576 by omega), appS_ok hc, List.append_assoc, ← plX_succ, w64_succ (show j < 9223372036854775807 by omega)]
        exact hX)
    simpa [plX] using this
  have hL1 : Ev (fun n => impl_Design_places_L1 d n ([] : List Tplace) 0) (plI d d.Instances.length, (d.Instances.length : Int)) := by
    refine loopF (Lf := impl_Design_places_L1 d) (S := fun j => plI d j) (len := d.Instances.length) (fun n => ?_) (fun j hj X hX => ?_)
    · simp only [impl_Design_places_L1, lt_nat_f (Nat.le_refl _), cond_false]
    · simp only [impl_Design_places_L1, lt_nat_t hj, cond_true, idx_gt hj, Option.bind_some, w64_succ (show j < 9223372036854775807 by omega)]
      refine Ev.bind (hL2 j hj _ (by have := plI_len h (Nat.le_of_lt hj); omega)) ?_
      rw [← plI_succ]
      exact hX
  have hL3 : Ev (fun n => impl_Design_places_L3 d n (plI d d.Instances.length) 0) (places d, (d.Ports.length : Int)) := by
    have := loopF (Lf := impl_Design_places_L3 d) (S := fun j => plI d d.Instances.length ++ plP d j) (len := d.Ports.length) (fin := (places d, (d.Ports.length : Int))) (fun n => by
        simp only [impl_Design_places_L3, lt_nat_f (Nat.le_refl _), cond_false]; rfl)
      (fun j hj X hX => by
        have hc : (plI d d.Instances.length ++ plP d j).length + [(⟨-1, (j : Int), (gt d.Ports j).Net, (gt d.Ports j).Dir == 1⟩ : Tplace)].length ≤ 2147483648 := by
          rw [List.length_append, plP_len]; have := plI_len h (Nat.le_refl _); simp; omega
        simp only [impl_Design_places_L3, lt_nat_t hj, cond_true, idx_gt hj, Option.bind_some, appS_ok hc, List.append_assoc, ← plP_succ, w64_succ (show j < 9223372036854775807 by omega)]
        exact hX)
    simpa [plP] using this
  unfold impl_Design_places
  exact Ev.bind hL1 (Ev.bind hL3 .done)

theorem sPlaces_ev {d : TDesign} (h : smallD d) : Ev (fun n => spec_l05Places n d) ((places d).map toSp) := by
  have h1 := h.ni
  have h2 := h.np
  have hL2 : ∀ i, i < d.Instances.length → ∀ pre : List Tplace, pre.length ≤ 100 → Ev (fun n => spec_l05Places_L2 (i : Int) (gt d.Instances i) n (pre.map toSp) 0) ((pre ++ plX i (gt d.Instances i) (gt d.Instances i).Nets.length).map toSp, ((gt d.Instances i).Nets.length : Int)) := by
    intro i hi pre hp
    have h5 := h.nx i hi
    have := loopF (Lf := spec_l05Places_L2 (i : Int) (gt d.Instances i)) (S := fun j => (pre ++ plX i (gt d.Instances i) j).map toSp) (len := (gt d.Instances i).Nets.length) (fin := ((pre ++ plX i (gt d.Instances i) (gt d.Instances i).Nets.length).map toSp, ((gt d.Instances i).Nets.length : Int))) (fun n => by
        simp only [spec_l05Places_L2, lt_nat_f (Nat.le_refl _), cond_false])
      (fun j hj X hX => by
        have hc : ((pre ++ plX i (gt d.Instances i) j).map toSp).length + [(⟨(i : Int), (j : Int), at0 (gt d.Instances i).Nets j, decide (j + 1 = (gt d.Instances i).Nets.length)⟩ : Tl05Place)].length ≤ 2147483648 := by
          rw [List.length_map, List.length_append, plX_len]; simp; omega
        simp only [spec_l05Places_L2, lt_nat_t hj, cond_true, idx_at0 hj, Option.bind_some, lastE hj (show (gt d.Instances i).Nets.length ≤ 1048576 by omega), appS_ok hc, w64_succ (show j < 9223372036854775807 by omega)]
        rw [plX_succ, ← List.append_assoc, List.map_append] at hX
        exact hX)
    simpa [plX] using this
  have hL1 : Ev (fun n => spec_l05Places_L1 d n ([] : List Tl05Place) 0) ((plI d d.Instances.length).map toSp, (d.Instances.length : Int)) := by
    refine loopF (Lf := spec_l05Places_L1 d) (S := fun j => (plI d j).map toSp) (len := d.Instances.length) (fun n => ?_) (fun j hj X hX => ?_)
    · simp only [spec_l05Places_L1, lt_nat_f (Nat.le_refl _), cond_false]
    · simp only [spec_l05Places_L1, lt_nat_t hj, cond_true, idx_gt hj, Option.bind_some, w64_succ (show j < 9223372036854775807 by omega)]
      refine Ev.bind (hL2 j hj _ (by have := plI_len h (Nat.le_of_lt hj); omega)) ?_
      rw [← plI_succ]
      exact hX
  have hL3 : Ev (fun n => spec_l05Places_L3 d n ((plI d d.Instances.length).map toSp) 0) ((places d).map toSp, (d.Ports.length : Int)) := by
    have := loopF (Lf := spec_l05Places_L3 d) (S := fun j => (plI d d.Instances.length ++ plP d j).map toSp) (len := d.Ports.length) (fin := ((places d).map toSp, (d.Ports.length : Int))) (fun n => by
        simp only [spec_l05Places_L3, lt_nat_f (Nat.le_refl _), cond_false]; rfl)
      (fun j hj X hX => by
        have hc : ((plI d d.Instances.length ++ plP d j).map toSp).length + [(⟨-1, (j : Int), (gt d.Ports j).Net, (gt d.Ports j).Dir == 1⟩ : Tl05Place)].length ≤ 2147483648 := by
          rw [List.length_map, List.length_append, plP_len]; have := plI_len h (Nat.le_refl _); simp; omega
        simp only [spec_l05Places_L3, lt_nat_t hj, cond_true, idx_gt hj, Option.bind_some, appS_ok hc, w64_succ (show j < 9223372036854775807 by omega)]
        rw [plP_succ, ← List.append_assoc, List.map_append] at hX
        exact hX)
    simpa [plP] using this
  unfold spec_l05Places
  exact Ev.bind hL1 (Ev.bind hL3 .done)

def snkQ (d : TDesign) (k : Int) (i : Nat) : Bool := ((gt (places d) i).net == k) && !(gt (places d) i).drives
def sinksL (d : TDesign) (k : Int) (j : Nat) : List Int := ((List.range j).filter (snkQ d k)).map fun (i : Nat) => (i : Int)
def snkN (d : TDesign) (k : Int) : Nat := cntP (snkQ d k) (places d).length
theorem sinksL_succ {d : TDesign} {k : Int} {j : Nat} : sinksL d k (j + 1) = sinksL d k j ++ (bif snkQ d k j then [(j : Int)] else []) := by
  unfold sinksL
  rw [List.range_succ, List.filter_append, List.map_append]
  congr 1
  cases h : snkQ d k j <;> simp [h]
theorem sinksL_len {d : TDesign} {k : Int} {j : Nat} : (sinksL d k j).length = cntP (snkQ d k) j := by
  induction j with
  | zero => rfl
  | succ j ih =>
    rw [sinksL_succ, List.length_append, ih]
    show _ = cntP (snkQ d k) j + _
    congr 1
    cases snkQ d k j <;> rfl
theorem gt_map {α β : Type} [Inhabited α] [Inhabited β] {xs : List α} {g : α → β} {j : Nat} (h : j < xs.length) : gt (xs.map g) j = g (gt xs j) := by
  rw [gt_eq (by simpa using h), gt_eq h]; simp

theorem l05Sinks_ev {d : TDesign} {k : Int} (h : smallD d) : Ev (fun n => spec_l05Sinks n d k) (sinksL d k (places d).length) := by
  have hl := places_len h
  have hL : Ev (fun n => spec_l05Sinks_L1 k ((places d).map toSp) n ([] : List Int) 0) (sinksL d k (places d).length, ((places d).length : Int)) := by
    refine loopF (Lf := spec_l05Sinks_L1 k ((places d).map toSp)) (S := fun j => sinksL d k j) (len := (places d).length) (fun n => ?_) (fun j hj X hX => ?_)
    · simp only [spec_l05Sinks_L1, List.length_map, lt_nat_f (Nat.le_refl _), cond_false]
    · have hj' : j < ((places d).map toSp).length := by simpa using hj
      have hc : (sinksL d k j).length + [(j : Int)].length ≤ 2147483648 := by
        rw [sinksL_len]
        have : cntP (snkQ d k) j ≤ j := cntP_le
        simp; omega
      simp only [spec_l05Sinks_L1, lt_nat_t hj', cond_true, idx_gt hj', gt_map hj, Option.bind_some, w64_succ (show j < 9223372036854775807 by omega)]
      rw [show ∀ p : Tplace, (toSp p).net = p.net from fun _ => rfl, show ∀ p : Tplace, (toSp p).drives = p.drives from fun _ => rfl]
      refine Ev.bind (b := snkQ d k j) (Ev.andP fun _ => .done) ?_
      rw [sinksL_succ] at hX
      cases hq : snkQ d k j
      · rw [hq] at hX
        simp only [cond_false, List.append_nil] at hX ⊢
        exact hX
      · rw [hq] at hX
        simp only [cond_true, appS_ok hc, Option.bind_some] at hX ⊢
        exact hX
  unfold spec_l05Sinks
  exact Ev.bind (sPlaces_ev h) (Ev.bind hL .done)

theorem places_net {l : TLibrary} {d : TDesign} (h : designB l d = true) {i : Nat} (hi : i < (places d).length) : 0 ≤ (gt (places d) i).net ∧ (gt (places d) i).net < d.Nets.length := by
  unfold designB at h
  simp only [Bool.and_eq_true] at h
  obtain ⟨_, hI, hP, _⟩ := h
  rw [all_gt, allN_iff] at hI hP
  have hm : gt (places d) i ∈ places d := by rw [gt_eq hi]; exact List.getElem_mem hi
  generalize gt (places d) i = p at hm
  unfold places at hm
  rcases List.mem_append.1 hm with hm | hm
  · unfold plI at hm
    obtain ⟨i, hi, hm⟩ := List.mem_flatMap.1 hm
    unfold plX at hm
    obtain ⟨k, hk, rfl⟩ := List.mem_map.1 hm
    have := hI i (List.mem_range.1 hi)
    unfold instB at this
    simp only [Bool.and_eq_true] at this
    have h3 := this.2.2
    rw [all_allN (d := 0), allN_iff] at h3
    have h4 := h3 k (List.mem_range.1 hk)
    unfold netB at h4
    rw [inI_iff] at h4
    show 0 ≤ at0 _ _ ∧ at0 _ _ < _
    unfold at0
    omega
  · unfold plP at hm
    obtain ⟨i, hi, rfl⟩ := List.mem_map.1 hm
    have := hP i (List.mem_range.1 hi)
    unfold portB netB at this
    simp only [Bool.and_eq_true, inI_iff] at this
    show 0 ≤ (gt d.Ports i).Net ∧ (gt d.Ports i).Net < _
    omega

/-! ### Blocks -/

def blockB (b : TBlock) : Bool := (designB b.Library b.Design && ((b.Wires.length : Int) == (b.Design.Nets.length : Int))) && allN (fun j => wireB (gt b.Wires j) (snkN b.Design (j : Int))) b.Wires.length

theorem IsBlock_ev {b : TBlock} (h : ok_Block b) : Ev (fun n => impl_IsBlock n b) (blockB b) := by
  have hwl := h.Wires.len
  unfold impl_IsBlock blockB
  refine Ev.guardB (Ev.or (IsDesign_ev h.Library h.Design) fun _ => .done) fun hb => ?_
  rw [Bool.and_eq_true, beq_iff_eq] at hb
  obtain ⟨hd, hw⟩ := hb
  have hs := designB_small hd
  have hl := places_len hs
  have hn := hs.nn
  rw [vecC_zero (m := b.Wires.length) (by omega)]
  simp only [Option.bind_some]
  have hL1 : Ev (fun n => impl_IsBlock_L1 (places b.Design) n (vecC (fun _ => 0) b.Wires.length) 0) (vecC (fun k => snkN b.Design (k : Int)) b.Wires.length, ((places b.Design).length : Int)) := by
    refine loopF (Lf := impl_IsBlock_L1 (places b.Design)) (S := fun j => vecC (fun k => cntP (snkQ b.Design (k : Int)) j) b.Wires.length) (len := (places b.Design).length) (fun n => ?_) (fun j hj X hX => ?_)
    · simp only [impl_IsBlock_L1, lt_nat_f (Nat.le_refl _), cond_false]; rfl
    · simp only [impl_IsBlock_L1, lt_nat_t hj, cond_true, idx_gt hj, Option.bind_some, w64_succ (show j < 9223372036854775807 by omega)]
      obtain ⟨n0, n1⟩ := places_net hd hj
      cases h1 : (gt (places b.Design) j).drives
      · have hc : cntP (snkQ b.Design (((gt (places b.Design) j).net.toNat : Nat) : Int)) j ≤ j := cntP_le
        obtain ⟨e1, e2⟩ := vecC_step (c := fun k => cntP (snkQ b.Design (k : Int)) j) (c' := fun k => cntP (snkQ b.Design (k : Int)) (j + 1)) (x := (gt (places b.Design) j).net) (m := b.Wires.length) n0 (by omega) (by show cntP _ _ < _; omega) (fun k _ => by
          show cntP _ j + (bif snkQ b.Design (k : Int) j then 1 else 0) = _
          unfold snkQ
          rw [h1, Bool.not_false, Bool.and_true])
        simp only [Bool.not_false, cond_true, Option.bind_some, e1, e2]
        exact hX
      · have : vecC (fun k => cntP (snkQ b.Design (k : Int)) (j + 1)) b.Wires.length = vecC (fun k => cntP (snkQ b.Design (k : Int)) j) b.Wires.length := by
          refine vecC_congr (fun k _ => ?_)
          show cntP _ j + (bif snkQ b.Design (k : Int) j then 1 else 0) = _
          unfold snkQ
          rw [h1, Bool.not_true, Bool.and_false]; rfl
        rw [this] at hX
        exact hX
  have hL2 : Ev (fun n => impl_IsBlock_L2 b (vecC (fun k => snkN b.Design (k : Int)) b.Wires.length) n 0) (bif allN (fun j => wireB (gt b.Wires j) (snkN b.Design (j : Int))) b.Wires.length then .nxt (b.Wires.length : Int) else .ret false) := by
    refine ev_all ?_ (fun j hj X hX => Ev.succ ?_)
    · exact Ev.succ (by simp only [impl_IsBlock_L2, lt_nat_f (Nat.le_refl _), cond_false]; exact .done)
    · simp only [impl_IsBlock_L2, lt_nat_t hj, cond_true, idx_gt hj, vecC_idx hj, Option.bind_some, w64_succ (show j < 9223372036854775807 by omega)]
      exact Ev.chk1 (IsWire_ev (gt_ok h.Wires hj)) fun _ => hX
  refine Ev.bind (places_ev hs) (Ev.bind hL1 (Ev.bind hL2 ?_))
  cases allN (fun j => wireB (gt b.Wires j) (snkN b.Design (j : Int))) b.Wires.length <;> exact .done

theorem sIsBlock_ev {b : TBlock} (h : ok_Block b) : Ev (fun n => spec_IsBlock n b) (blockB b) := by
  have hwl := h.Wires.len
  unfold spec_IsBlock blockB
  refine Ev.guardB (Ev.or (sIsDesign_ev h.Library h.Design) fun _ => .done) fun hb => ?_
  rw [Bool.and_eq_true] at hb
  have hs := designB_small hb.1
  have hL : Ev (fun n => spec_IsBlock_L1 b n 0) (bif allN (fun j => wireB (gt b.Wires j) (snkN b.Design (j : Int))) b.Wires.length then .nxt (b.Wires.length : Int) else .ret false) := by
    refine ev_all ?_ (fun j hj X hX => Ev.succ ?_)
    · exact Ev.succ (by simp only [spec_IsBlock_L1, lt_nat_f (Nat.le_refl _), cond_false]; exact .done)
    · simp only [spec_IsBlock_L1, lt_nat_t hj, cond_true, idx_gt hj, Option.bind_some, w64_succ (show j < 9223372036854775807 by omega)]
      refine Ev.bind (l05Sinks_ev hs) ?_
      rw [sinksL_len]
      exact Ev.chk1 (sIsWire_ev (gt_ok h.Wires hj)) fun _ => hX
  refine Ev.bind hL ?_
  cases allN (fun j => wireB (gt b.Wires j) (snkN b.Design (j : Int))) b.Wires.length <;> exact .done
end Go.Fw


namespace Go.Fw
open Go
open Go.ChangeShapes Go.WideShapes Go.ChangeAt Go.RowKit

/-- An argument that is one. -/
theorem open_arg2 {P : Program} {H : Type} {enc : TypeId × Value → H} {W : World} {t : TypeId} {v : Value} {d : DataW H} {p : List MemPlace} {α : Type} [A : GoT α] {ρ : α → Prop} (ho : Opens P t A ρ) (hag : A.agg = true) {fs : Array Field} (ht : P.underlying t = some (.struct fs)) {r : Reach} {b : Nat} (hok : Value.okWide P W r b t v)
    (h : DataW.Trod enc P W 0 (fun _ => true) true t v d p) : ∃ x : α, ∃ cs, v = GoT.v α cs ∧ A.R W (old W) x cs ∧ ρ x := by
  unfold Value.okWide at hok
  rw [ht] at hok
  obtain ⟨cs, rfl, _⟩ := hok
  obtain ⟨fuel, hf⟩ := h
  obtain ⟨x, hR, hx⟩ := ho.2 hf
  refine ⟨x, _, ?_, hR, hx⟩
  unfold GoT.v mkV
  rw [hag]
  simp [Value.cells]
section
variable {P : Program} {H : Type} {enc : TypeId × Value → H}
theorem trodAll_below (hl : laidOutB P = true) {W W' : World} (hb : Below W.heap.size W W') : ∀ {ts : List TypeId} {vs : List Value} {ds : List (DataW H)} {ps : List MemPlace}, (∀ t ∈ ts, P.readableRec t = true ∧ t < P.types.size) →
    DataW.TrodAll enc P W 0 (fun _ => true) true ts vs ds ps → (∀ x ∈ ps, x.block < W.heap.size) →
    DataW.TrodAll enc P W' 0 (fun b => decide (b < W.heap.size)) true ts vs ds ps ∧ DataW.TrodAll enc P W' 0 (fun _ => true) true ts vs ds ps := by
  intro ts
  induction ts with
  | nil =>
    intro vs ds ps _ h _
    obtain ⟨rfl, rfl, rfl⟩ := trodAll_nil h
    exact ⟨rfl, rfl⟩
  | cons t ts ih =>
    intro vs ds ps hr h hlt
    obtain ⟨v, vs', d, ds', p, q, rfl, rfl, rfl, hd, hrest⟩ := trodAll_cons h
    obtain ⟨h1, h2⟩ := ih (fun u hu => hr u (List.mem_cons_of_mem _ hu)) hrest (fun x hx => hlt x (List.mem_append.2 (.inr hx)))
    obtain ⟨r1, r2⟩ := hr t (List.mem_cons_self ..)
    have hlt1 : ∀ x ∈ p, x.block < W.heap.size := fun x hx => hlt x (List.mem_append.2 (.inl hx))
    exact ⟨⟨p, q, Below.trod hl r1 r2 hd hb hlt1, h1, rfl⟩, ⟨p, q, WideElems.Trod_stays hl r1 r2 hd (fun x hx => hb.same (hlt1 x hx)) (fun _ _ => rfl), h2, rfl⟩⟩
end

/-- What is left of a law behind its opening. -/
theorem law_postN {P : Program} {H : Type} {enc : TypeId × Value → H} {fn : Func} {s : ChangeSpec} {apart fresh handsOn again : Bool} {W W' : World} {tb : TypeId} {args : Array Value} {ds : List (DataW H)} {p : List MemPlace}
    (hl : laidOutB P = true) (hrr : (fn.params.toList.all fun t => P.readableRec t && decide (t < P.types.size)) = true) (hres : fn.resultTypes = #[tb]) (htb : P.underlying tb = some .bool) (hvars : s.vars = [])
    (hr : (s.fn H (ds ++ [])).results = [.lit (.bool true)]) (ha : (s.fn H (ds ++ [])).args = ds) (hv : (s.fn H (ds ++ [])).vars = [])
    (hW : DataW.Whole enc P fn.params.toList s.vars apart W args.toList ds [] p) (hb : Below W.heap.size W W') :
    s.post enc P fn apart fresh handsOn again W args (.bool true) W' := by
  have hW0 := hW
  obtain ⟨p0, q0, hA, hV, rfl, hz, hn⟩ := hW
  rw [hvars] at hV
  obtain rfl : q0 = [] := hV
  simp only [List.append_nil] at hW0 hz hn
  have hlt : ∀ x ∈ p0, x.block < W.heap.size := fun x hx => hW0.lt x hx
  obtain ⟨h0', h1'⟩ := trodAll_below hl hb (fun t ht => by
    have := List.all_eq_true.1 hrr t ht
    simpa using this) hA hlt
  have hR : ∀ (b : Nat) (sp : Nat → Bool) (hd : Bool), DataW.TrodAll enc P W' b sp hd fn.resultTypes.toList ((Value.bool true).resultList fn.resultTypes.size) (s.fn H (ds ++ [])).results [] := by
    intro b sp hd
    rw [hres, hr]
    exact trodAll_mk1 (shut_bool htb true)
  have hR2 : (Value.bool true).resultList fn.resultTypes.size = [.bool true] := by rw [hres]; rfl
  refine ⟨ds, [], p0, [], p0, [], hW0, hR _ _ _, ?_, ?_, hb.frame _, fun _ => ?_⟩
  · rw [ha]
    exact h0'
  · rw [hvars, hv]
    exact rfl
  · refine ⟨ok_one hres rfl (okWide_bool_mk htb true), .lit (.bool true) :: ds, [], p0, ⟨p0, [], ?_, ?_, by simp, ?_, ?_⟩, fun x hx _ => hx⟩
    · rw [hR2, hres]
      exact ⟨[], p0, shut_bool htb true, h1', by simp⟩
    · rw [hvars]; exact rfl
    · intro b off hm
      rw [hb.frozen (hlt _ hm)]
      exact hz b off hm
    · intro hap
      exact hn hap
end Go.Fw


namespace Go.Fw
open Go

/-- A loop that builds: something holds of its state at every turn. -/
theorem loopE {ρ τ : Type} {Lf : Nat → τ → Int → Option ρ} {fin : τ → ρ} (Inv : Nat → τ → Prop) {len : Nat} (hend : ∀ n t, Lf (n + 1) t (len : Int) = some (fin t))
    (hstep : ∀ j t, j < len → Inv j t → ∃ t', Inv (j + 1) t' ∧ ∀ X, Ev (fun n => Lf n t' ((j + 1 : Nat) : Int)) X → Ev (fun n => Lf (n + 1) t (j : Int)) X)
    (i0 : Nat) (hi : i0 ≤ len) (t : τ) (h0 : Inv i0 t) : ∃ t', Inv len t' ∧ Ev (fun n => Lf n t (i0 : Int)) (fin t') := by
  have main : ∀ k j t, j + k = len → Inv j t → ∃ t', Inv len t' ∧ Ev (fun n => Lf n t (j : Int)) (fin t') := by
    intro k
    induction k with
    | zero =>
      intro j t hj h
      obtain rfl : j = len := by omega
      exact ⟨t, h, Ev.step (fun n => hend n t) .done⟩
    | succ k ih =>
      intro j t hj h
      obtain ⟨t', h1, h2⟩ := hstep j t (by omega) h
      obtain ⟨t2, h3, h4⟩ := ih (j + 1) t' (by omega) h1
      exact ⟨t2, h3, Ev.succ (h2 _ h4)⟩
  exact main (len - i0) i0 t (by omega) h0

/-- The same, downwards to 1. -/
theorem loopDn {ρ τ : Type} {Lf : Nat → τ → Int → Option ρ} {fin : τ → ρ} (Inv : τ → Prop) (m : Nat) (hend : ∀ n t, Lf (n + 1) t (0 : Int) = some (fin t))
    (hstep : ∀ j : Nat, ∀ t, 0 < j → j ≤ m → Inv t → ∃ t', Inv t' ∧ ∀ X, Ev (fun n => Lf n t' ((j - 1 : Nat) : Int)) X → Ev (fun n => Lf (n + 1) t (j : Int)) X) : ∀ t, Inv t → ∃ t', Inv t' ∧ Ev (fun n => Lf n t (m : Int)) (fin t') := by
  have : ∀ j, j ≤ m → ∀ t, Inv t → ∃ t', Inv t' ∧ Ev (fun n => Lf n t (j : Int)) (fin t') := by
    intro j
    induction j with
    | zero => exact fun _ t h => ⟨t, h, Ev.step (fun n => hend n t) .done⟩
    | succ j ih =>
      intro hj t h
      obtain ⟨t', h1, h2⟩ := hstep (j + 1) t (by omega) hj h
      obtain ⟨t2, h3, h4⟩ := ih (by omega) t' h1
      exact ⟨t2, h3, Ev.succ (h2 _ h4)⟩
  exact this m (Nat.le_refl _)

theorem gt_append {α : Type} [Inhabited α] {xs ys : List α} {j : Nat} : gt (xs ++ ys) j = if j < xs.length then gt xs j else gt ys (j - xs.length) := by
  unfold gt
  rw [List.getD_eq_getElem?_getD, List.getElem?_append]
  by_cases h : j < xs.length
  · simp only [h, if_true]; rfl
  · simp only [h, if_false]; rfl
theorem gt_range {α : Type} [Inhabited α] {f : Nat → α} {n j : Nat} (h : j < n) : gt ((List.range n).map f) j = f j := by
  unfold gt; simp [List.getD_eq_getElem?_getD, h]
end Go.Fw


namespace Go.Fw
open Go
set_option maxRecDepth 100000

def off (d : TDesign) (i : Nat) : Nat := (plI d i).length
def place1 (d : TDesign) (i k : Nat) : Tplace := ⟨(i : Int), (k : Int), at0 (gt d.Instances i).Nets k, decide (k + 1 = (gt d.Instances i).Nets.length)⟩
def place2 (d : TDesign) (i : Nat) : Tplace := ⟨-1, (i : Int), (gt d.Ports i).Net, (gt d.Ports i).Dir == 1⟩

theorem off_succ {d : TDesign} {i : Nat} : off d (i + 1) = off d i + (gt d.Instances i).Nets.length := by
  unfold off; rw [plI_succ, List.length_append, plX_len]
theorem places_len' {d : TDesign} : (places d).length = off d d.Instances.length + d.Ports.length := by
  unfold places off; rw [List.length_append, plP_len]
theorem plI_at {d : TDesign} {n i k : Nat} (hi : i < n) (hk : k < (gt d.Instances i).Nets.length) : off d i + k < off d n ∧ gt (plI d n) (off d i + k) = place1 d i k := by
  induction n with
  | zero => omega
  | succ n ih =>
    rw [plI_succ, gt_append]
    rcases Nat.lt_succ_iff_lt_or_eq.1 hi with h | rfl
    · obtain ⟨h1, h2⟩ := ih h
      refine ⟨by rw [off_succ]; omega, ?_⟩
      rw [if_pos (show off d i + k < (plI d n).length from h1), h2]
    · refine ⟨by rw [off_succ]; omega, ?_⟩
      rw [if_neg (by unfold off; omega), show off d i + k - (plI d i).length = k by unfold off; omega]
      exact gt_range hk
theorem place_at1 {d : TDesign} {i k : Nat} (hi : i < d.Instances.length) (hk : k < (gt d.Instances i).Nets.length) : off d i + k < (places d).length ∧ gt (places d) (off d i + k) = place1 d i k := by
  obtain ⟨h1, h2⟩ := plI_at hi hk
  refine ⟨by rw [places_len']; omega, ?_⟩
  unfold places
  rw [gt_append, if_pos (show off d i + k < (plI d d.Instances.length).length from h1), h2]
theorem place_at2 {d : TDesign} {i : Nat} (hi : i < d.Ports.length) : off d d.Instances.length + i < (places d).length ∧ gt (places d) (off d d.Instances.length + i) = place2 d i := by
  refine ⟨by rw [places_len']; omega, ?_⟩
  unfold places
  rw [gt_append, if_neg (by unfold off; omega), show off d d.Instances.length + i - (plI d d.Instances.length).length = i by unfold off; omega]
  exact gt_range hi
theorem plI_cases {d : TDesign} {n j : Nat} (hj : j < off d n) : ∃ i k, i < n ∧ k < (gt d.Instances i).Nets.length ∧ j = off d i + k := by
  induction n with
  | zero => exact absurd hj (Nat.not_lt_zero _)
  | succ n ih =>
    by_cases h : j < off d n
    · obtain ⟨i, k, h1, h2, h3⟩ := ih h
      exact ⟨i, k, by omega, h2, h3⟩
    · rw [off_succ] at hj
      exact ⟨n, j - off d n, by omega, by omega, by omega⟩
/-- Every place is a pin of an instance or a port. -/
theorem place_cases {d : TDesign} {j : Nat} (hj : j < (places d).length) :
    (∃ i k, i < d.Instances.length ∧ k < (gt d.Instances i).Nets.length ∧ j = off d i + k ∧ gt (places d) j = place1 d i k) ∨
    (∃ i, i < d.Ports.length ∧ j = off d d.Instances.length + i ∧ gt (places d) j = place2 d i) := by
  rw [places_len'] at hj
  by_cases h : j < off d d.Instances.length
  · obtain ⟨i, k, h1, h2, rfl⟩ := plI_cases h
    exact .inl ⟨i, k, h1, h2, rfl, (place_at1 h1 h2).2⟩
  · refine .inr ⟨j - off d d.Instances.length, by omega, by omega, ?_⟩
    have := (place_at2 (d := d) (i := j - off d d.Instances.length) (by omega)).2
    rwa [show off d d.Instances.length + (j - off d d.Instances.length) = j by omega] at this

/-! ### Drivers -/

/-! ### Cells of instances -/

theorem inst_cell {l : TLibrary} {d : TDesign} (h : designB l d = true) {i : Nat} (hi : i < d.Instances.length) :
    (0 ≤ (gt d.Instances i).Cell ∧ (gt d.Instances i).Cell < l.Cells.length) ∧ (gt d.Instances i).Nets.length = (gt l.Cells (gt d.Instances i).Cell.toNat).Pins.length ∧ cellB (gt l.Cells (gt d.Instances i).Cell.toNat) = true := by
  unfold designB libB at h
  simp only [Bool.and_eq_true] at h
  obtain ⟨⟨⟨hc, _⟩, _⟩, hI, _⟩ := h
  rw [all_gt, allN_iff] at hI hc
  have := hI i hi
  unfold instB at this
  simp only [Bool.and_eq_true, inI_iff, beq_iff_eq] at this
  exact ⟨⟨this.1.1, by omega⟩, by omega, hc _ (by omega)⟩
theorem cellB_arcs {c : TCell} (h : cellB c = true) : c.Arcs.length ≤ 8 := by
  unfold cellB at h
  simp only [Bool.and_eq_true, decide_eq_true_eq] at h
  exact h.2.2.1.2
theorem blockB_des {b : TBlock} (h : blockB b = true) : designB b.Library b.Design = true := by
  unfold blockB at h; simp only [Bool.and_eq_true] at h; exact h.1.1
end Go.Fw


namespace Go.Fw
open Go Go.Proofs
open Go.RowKit (Below)
set_option maxRecDepth 100000
def impl_Arc_transitions (_ : Nat) (a : TArc) : Option (List TA2_Int) :=
  bif (a.Kind == 2) then
    some ([(⟨0, 0⟩ : TA2_Int), (⟨0, 1⟩ : TA2_Int)] : List TA2_Int)
  else
    bif (a.Kind == 3) then
      some ([(⟨1, 0⟩ : TA2_Int), (⟨1, 1⟩ : TA2_Int)] : List TA2_Int)
    else
      bif (a.Kind != 1) then
        some []
      else
        bif (a.Sense == 1) then
          some ([(⟨0, 0⟩ : TA2_Int), (⟨1, 1⟩ : TA2_Int)] : List TA2_Int)
        else
          bif (a.Sense == 2) then
            some ([(⟨0, 1⟩ : TA2_Int), (⟨1, 0⟩ : TA2_Int)] : List TA2_Int)
          else
            some ([(⟨0, 0⟩ : TA2_Int), (⟨0, 1⟩ : TA2_Int), (⟨1, 0⟩ : TA2_Int), (⟨1, 1⟩ : TA2_Int)] : List TA2_Int)

theorem impl_Arc_transitions_ok {n : Nat} {w : World} {a : TArc} {cs1 : List Value} (ha1 : GoT.R w (old w) a cs1) {r : (List TA2_Int)} (hF : impl_Arc_transitions n a = some r) : RetV Tryz.prog 131 [GoT.v TArc cs1] w r := by
  obtain ⟨p1, k1, p2, k2, rfl, s1, s2⟩ := open_TArc ha1
  refine retV_of_run Tryz.func131 rfl (m := 44) rfl rfl (fun h => ?_)
  rw [impl_Arc_transitions] at hF
  refine r_seq (r_region (r_box h rfl rfl ?_))
  intro w1 bb1 h
  refine rp rfl rfl (r_nil (r_seq (r_region (r_v (v_buildA tabOk [0, 1] [.const (.int .i64 (0)), .const (.int .i64 (0))] rfl rfl rfl rfl rfl rfl rfl rfl rfl) rfl (r_v (v_buildA tabOk [0, 1] [.const (.int .i64 (1)), .const (.int .i64 (1))] rfl rfl rfl rfl rfl rfl rfl rfl rfl) rfl (r_bslice tabOk [.tmp 5, .tmp 6] _ ([(⟨0, 0⟩ : TA2_Int), (⟨1, 1⟩ : TA2_Int)] : List TA2_Int) h rfl rfl rfl rfl rfl rfl rfl rfl rfl ⟨(mkR_TA2_Int (⟨0, 0⟩ : TA2_Int)), (mkR_TA2_Int (⟨1, 1⟩ : TA2_Int)), trivial⟩ rfl ?_))))))
  intro w2 p3 S1 h
  refine rp rfl rfl (r_nil (r_seq (r_region (r_v (v_buildA tabOk [0, 1] [.const (.int .i64 (0)), .const (.int .i64 (1))] rfl rfl rfl rfl rfl rfl rfl rfl rfl) rfl (r_v (v_buildA tabOk [0, 1] [.const (.int .i64 (1)), .const (.int .i64 (0))] rfl rfl rfl rfl rfl rfl rfl rfl rfl) rfl (r_bslice tabOk [.tmp 8, .tmp 9] _ ([(⟨0, 1⟩ : TA2_Int), (⟨1, 0⟩ : TA2_Int)] : List TA2_Int) h rfl rfl rfl rfl rfl rfl rfl rfl rfl ⟨(mkR_TA2_Int (⟨0, 1⟩ : TA2_Int)), (mkR_TA2_Int (⟨1, 0⟩ : TA2_Int)), trivial⟩ rfl ?_))))))
  intro w3 p4 S2 h
  refine rp rfl rfl (r_nil (r_seq (r_block (r_seq (r_region (rp rfl rfl (r_v (v_ld tabOk (h.box 2 rfl) (j := 0) rfl rfl rfl) rfl (rp rfl rfl (rp rfl rfl (r_nil ?_))))))))))
  refine r_if rfl hF (fun hF => ?_) (fun hF => ?_)
  · refine r_seq (r_region (r_v (v_buildA tabOk [0, 1] [.const (.int .i64 (0)), .const (.int .i64 (0))] rfl rfl rfl rfl rfl rfl rfl rfl rfl) rfl (r_v (v_buildA tabOk [0, 1] [.const (.int .i64 (0)), .const (.int .i64 (1))] rfl rfl rfl rfl rfl rfl rfl rfl rfl) rfl (r_bslice tabOk [.tmp 15, .tmp 16] _ ([(⟨0, 0⟩ : TA2_Int), (⟨0, 1⟩ : TA2_Int)] : List TA2_Int) h rfl rfl rfl rfl rfl rfl rfl rfl rfl ⟨(mkR_TA2_Int (⟨0, 0⟩ : TA2_Int)), (mkR_TA2_Int (⟨0, 1⟩ : TA2_Int)), trivial⟩ rfl ?_))))
    intro w4 p5 S3 h
    refine rp rfl rfl (r_nil ?_)
    obtain rfl := someI hF
    exact r_retV tabOk (ρ := (List TA2_Int)) [GoT.v (List TA2_Int) [.slice p5 2 2]] h ⟨rfl, trivial⟩ (PV.done h (pv_one (po_own 0 h rfl)))
  refine r_seq (r_region (rp rfl rfl (r_v (v_ld tabOk (h.box 2 rfl) (j := 0) rfl rfl rfl) rfl (rp rfl rfl (rp rfl rfl (r_nil ?_))))))
  refine r_if rfl hF (fun hF => ?_) (fun hF => ?_)
  · refine r_seq (r_region (r_v (v_buildA tabOk [0, 1] [.const (.int .i64 (1)), .const (.int .i64 (0))] rfl rfl rfl rfl rfl rfl rfl rfl rfl) rfl (r_v (v_buildA tabOk [0, 1] [.const (.int .i64 (1)), .const (.int .i64 (1))] rfl rfl rfl rfl rfl rfl rfl rfl rfl) rfl (r_bslice tabOk [.tmp 22, .tmp 23] _ ([(⟨1, 0⟩ : TA2_Int), (⟨1, 1⟩ : TA2_Int)] : List TA2_Int) h rfl rfl rfl rfl rfl rfl rfl rfl rfl ⟨(mkR_TA2_Int (⟨1, 0⟩ : TA2_Int)), (mkR_TA2_Int (⟨1, 1⟩ : TA2_Int)), trivial⟩ rfl ?_))))
    intro w5 p6 S4 h
    refine rp rfl rfl (r_nil ?_)
    obtain rfl := someI hF
    exact r_retV tabOk (ρ := (List TA2_Int)) [GoT.v (List TA2_Int) [.slice p6 2 2]] h ⟨rfl, trivial⟩ (PV.done h (pv_one (po_own 0 h rfl)))
  refine r_seq (r_region (rp rfl rfl (r_v (v_ld tabOk (h.box 2 rfl) (j := 0) rfl rfl rfl) rfl (rp rfl rfl (rp rfl rfl (r_nil ?_))))))
  refine r_if rfl hF (fun hF => ?_) (fun hF => ?_)
  · refine r_seq (r_region (rp rfl rfl (r_nil ?_)))
    obtain rfl := someI hF
    exact r_retV tabOk (ρ := (List TA2_Int)) [GoT.v (List TA2_Int) [.slice none 0 0]] h ⟨rfl, trivial⟩ (PV.done h (pv_one po_nil))
  refine r_seq (r_region (rp rfl rfl (r_v (v_ld tabOk (h.box 2 rfl) (j := 3) rfl rfl rfl) rfl (rp rfl rfl (rp rfl rfl (r_nil ?_))))))
  refine r_if rfl hF (fun hF => ?_) (fun hF => ?_)
  · refine r_seq (r_region (rp rfl rfl (rp rfl rfl (r_nil ?_))))
    obtain rfl := someI hF
    exact r_retV tabOk (ρ := (List TA2_Int)) [GoT.v (List TA2_Int) [.slice p3 2 2]] h ⟨rfl, trivial⟩ (PV.done h (pv_one (po_own 1 h rfl)))
  refine r_seq (r_region (rp rfl rfl (r_v (v_ld tabOk (h.box 2 rfl) (j := 3) rfl rfl rfl) rfl (rp rfl rfl (rp rfl rfl (r_nil ?_))))))
  refine r_if rfl hF (fun hF => ?_) (fun hF => ?_)
  · refine r_seq (r_region (rp rfl rfl (rp rfl rfl (r_nil ?_))))
    obtain rfl := someI hF
    exact r_retV tabOk (ρ := (List TA2_Int)) [GoT.v (List TA2_Int) [.slice p4 2 2]] h ⟨rfl, trivial⟩ (PV.done h (pv_one (po_own 0 h rfl)))
  refine r_skip (r_blk (r_seq (r_region (r_v (v_buildA tabOk [0, 1] [.const (.int .i64 (0)), .const (.int .i64 (0))] rfl rfl rfl rfl rfl rfl rfl rfl rfl) rfl (r_v (v_buildA tabOk [0, 1] [.const (.int .i64 (0)), .const (.int .i64 (1))] rfl rfl rfl rfl rfl rfl rfl rfl rfl) rfl (r_v (v_buildA tabOk [0, 1] [.const (.int .i64 (1)), .const (.int .i64 (0))] rfl rfl rfl rfl rfl rfl rfl rfl rfl) rfl (r_v (v_buildA tabOk [0, 1] [.const (.int .i64 (1)), .const (.int .i64 (1))] rfl rfl rfl rfl rfl rfl rfl rfl rfl) rfl (r_bslice tabOk [.tmp 39, .tmp 40, .tmp 41, .tmp 42] _ ([(⟨0, 0⟩ : TA2_Int), (⟨0, 1⟩ : TA2_Int), (⟨1, 0⟩ : TA2_Int), (⟨1, 1⟩ : TA2_Int)] : List TA2_Int) h rfl rfl rfl rfl rfl rfl rfl rfl rfl ⟨(mkR_TA2_Int (⟨0, 0⟩ : TA2_Int)), (mkR_TA2_Int (⟨0, 1⟩ : TA2_Int)), (mkR_TA2_Int (⟨1, 0⟩ : TA2_Int)), (mkR_TA2_Int (⟨1, 1⟩ : TA2_Int)), trivial⟩ rfl ?_))))))))
  intro w6 p7 S5 h
  refine rp rfl rfl (r_nil ?_)
  obtain rfl := someI hF
  exact r_retV tabOk (ρ := (List TA2_Int)) [GoT.v (List TA2_Int) [.slice p7 4 4]] h ⟨rfl, trivial⟩ (PV.done h (pv_one (po_own 0 h rfl)))

def impl_Block_cellLinks_L2 (first : Int) (i1 : Int) (y2 : TArc) (r1 : (List TA2_Int)) : Nat → (List TLink) → Int → Option ((List TLink) × Int)
  | 0, _, _ => none
  | n + 1, x2, i2 =>
    bif decide (i2 < (r1.length : Int)) then
      (idx r1 i2).bind fun y3 =>
      (appS x2 ([(⟨W64 ((W64 (2 * (W64 (first + y2.From)))) + y3.e0), W64 ((W64 (2 * (W64 (first + y2.To)))) + y3.e1), 1, i1⟩ : TLink)] : List TLink)).bind fun x3 =>
      impl_Block_cellLinks_L2 first i1 y2 r1 n x3 (W64 (i2 + 1))
    else
      some (x2, i2)

def impl_Block_cellLinks_L1 (first : Int) (y1 : TCell) : Nat → (List TLink) → Int → Option ((List TLink) × Int)
  | 0, _, _ => none
  | n + 1, x1, i1 =>
    bif decide (i1 < (y1.Arcs.length : Int)) then
      (idx y1.Arcs i1).bind fun y2 =>
      (impl_Arc_transitions n y2).bind fun r1 =>
      (impl_Block_cellLinks_L2 first i1 y2 r1 n x1 0).bind fun o => match o with
      | (x2, _) =>
        impl_Block_cellLinks_L1 first y1 n x2 (W64 (i1 + 1))
    else
      some (x1, i1)

def impl_Block_cellLinks (n : Nat) (b : TBlock) (x : TInstance) (first : Int) : Option (List TLink) :=
  (idx b.Library.Cells x.Cell).bind fun y1 =>
  (impl_Block_cellLinks_L1 first y1 n ([] : List TLink) 0).bind fun o => match o with
  | (x1, _) =>
    some x1

theorem impl_Block_cellLinks_ok {n : Nat} {w : World} {b : TBlock} {x : TInstance} {first : Int} {cs1 : List Value} (ha1 : GoT.R w (old w) b cs1) {cs2 : List Value} (ha2 : GoT.R w (old w) x cs2) {r : (List TLink)} (hF : impl_Block_cellLinks n b x first = some r) : RetV Tryz.prog 78 [GoT.v TBlock cs1, GoT.v TInstance cs2, .int .i64 first] w r := by
  obtain ⟨p1, k1, p2, k2, p3, k3, p4, k4, p5, k5, rfl, s1, s2, s3, s4, s5⟩ := open_TBlock ha1
  obtain ⟨p6, k6, rfl, s6⟩ := open_TInstance ha2
  refine retV_of_run Tryz.func78 rfl (m := 57) rfl rfl (fun h => ?_)
  rw [impl_Block_cellLinks] at hF
  refine r_seq (r_region (r_box h rfl rfl ?_))
  intro w1 bb1 h
  refine r_box h rfl rfl ?_
  intro w2 bb2 h
  refine rp rfl rfl (r_nil (r_seq (r_region (rp rfl rfl (r_nil (r_seq (r_seq (r_region (rp rfl rfl (rp rfl rfl (r_v (v_ld tabOk (h.box 1 rfl) (j := 0) rfl rfl rfl) rfl ?_)))))))))))
  refine rp rfl rfl (r_v (v_ld tabOk (h.box 0 rfl) (j := 1) rfl rfl rfl) rfl ?_)
  obtain ⟨y1, hy1, hF⟩ := bindS hF
  have he1 := idx_some hy1
  obtain ⟨b1, o_1, q1, cs3, hp1, hq1, -, hr1, hc1⟩ := s1.at hy1
  obtain ⟨p7, k7, p8, k8, p9, k9, rfl, s7, s8, s9⟩ := open_TCell hr1
  refine r_v (v_ix tabOk hp1 hq1 ⟨he1.1, he1.2.1⟩ rfl rfl rfl rfl rfl rfl) rfl (rp rfl rfl (r_v (v_ld tabOk (hc1.below h.below) (j := 3) rfl rfl rfl) rfl (rp rfl rfl (rp rfl rfl (r_nil ?_)))))
  replace h := h.nil (α := TLink)
  obtain ⟨o1, hF, hK1⟩ := bindS hF
  refine r_block ?_
  replace h := h.pick [0] rfl
  refine r_sub [(2, _), (7, _), (19, _), (20, _), (21, _)] ⟨rfl, rfl, rfl, rfl, rfl, trivial⟩ ?_
  refine r_loop (fun m e w' => ∃ (S1 : Nat → Prop) (p10 : Option Addr) (ln1 : Nat) (k10 : Nat) (x1 : (List TLink)) (i1 : Int), impl_Block_cellLinks_L1 first y1 m x1 i1 = some o1 ∧ e = [(2, .int .i64 first), (7, .slice p10 ln1 k10), (19, .slice p8 y1.Arcs.length k8), (20, .int .i64 (y1.Arcs.length : Int)), (21, .int .i64 i1)] ∧ SH w w' [Ch.own S1 (x1 : List TLink) [.slice p10 ln1 k10]]) n ⟨_, _, _, _, _, _, hF, rfl, h⟩ ?_
  rintro m1 e1 w3 ⟨S1, p10, ln1, k10, x1, i1, hF, rfl, h⟩
  obtain rfl := (h.sl 0 rfl).2
  rcases m1 with _ | m1
  · rw [impl_Block_cellLinks_L1] at hF
    cases hF
  rw [impl_Block_cellLinks_L1] at hF
  refine r_seq (r_region (rp rfl rfl (r_nil (r_seq ?_))))
  refine r_if rfl hF (fun hF => ?_) (fun hF => ?_)
  · refine r_skip (r_seq (r_block (r_seq (r_region (rp rfl rfl ?_)))))
    obtain ⟨y2, hy2, hF⟩ := bindS hF
    have he2 := idx_some hy2
    obtain ⟨b2, o_2, q2, cs4, hp2, hq2, -, hr2, hc3⟩ := s8.at hy2
    obtain ⟨p11, k11, p12, k12, rfl, s10, s11⟩ := open_TArc hr2
    refine r_v (v_ix tabOk hp2 hq2 ⟨he2.1, he2.2.1⟩ rfl rfl rfl rfl rfl rfl) rfl (r_v (v_ld tabOk (hc3.below h.below) (j := 0) rfl rfl rfl) rfl (r_alloc tabOk h rfl rfl rfl ?_))
    intro w4 bb3 h
    refine rp rfl rfl (r_stbox tabOk 0 h rfl rfl rfl rfl rfl rfl rfl ?_)
    intro w5 h
    replace h : SH _ _ [Ch.box bb3 [.int .i64 y2.Kind, .int .i64 y2.From, .int .i64 y2.To, .int .i64 y2.Sense, .slice p11 y2.Delay.length k11, .slice p12 y2.Slew.length k12] 159, Ch.own S1 (x1 : List TLink) [.slice p10 x1.length k10]] := h
    refine r_nil (r_seq (r_region (r_v (v_ld tabOk (h.box 0 rfl) (j := 0) rfl rfl rfl) rfl ?_)))
    obtain ⟨r1, hr3, hF⟩ := bindS hF
    refine r_callL r1 h call131 (impl_Arc_transitions_ok (mkR_TArc y2 (h.oldS s10) (h.oldS s11)) hr3) rfl rfl rfl rfl ?_
    intro w6 S2 p13 k13 h
    refine rp rfl rfl (rp rfl rfl (r_nil ?_))
    obtain ⟨o2, hF, hK2⟩ := bindS hF
    refine r_block (r_sub [(2, _), (7, _), (8, _), (9, _), (19, _), (20, _), (21, _), (27, _), (28, _), (29, _)] ⟨rfl, rfl, rfl, rfl, rfl, rfl, rfl, rfl, rfl, rfl, trivial⟩ ?_)
    refine r_loop (fun m e w' => ∃ (S3 : Nat → Prop) (p14 : Option Addr) (ln2 : Nat) (k14 : Nat) (x2 : (List TLink)) (i2 : Int), impl_Block_cellLinks_L2 first i1 y2 r1 m x2 i2 = some o2 ∧ e = [(2, .int .i64 first), (7, .slice p14 ln2 k14), (8, .int .i64 i1), (9, .pointer (some ⟨bb3, 0, none⟩)), (19, .slice p8 y1.Arcs.length k8), (20, .int .i64 (y1.Arcs.length : Int)), (21, .int .i64 i1), (27, .slice p13 r1.length k13), (28, .int .i64 (r1.length : Int)), (29, .int .i64 i2)] ∧ SH w w' [Ch.own S2 (r1 : List TA2_Int) [.slice p13 r1.length k13], Ch.box bb3 [.int .i64 y2.Kind, .int .i64 y2.From, .int .i64 y2.To, .int .i64 y2.Sense, .slice p11 y2.Delay.length k11, .slice p12 y2.Slew.length k12] 159, Ch.own S3 (x2 : List TLink) [.slice p14 ln2 k14]]) m1 ⟨_, _, _, _, _, _, hF, rfl, h⟩ ?_
    rintro m2 e2 w7 ⟨S3, p14, ln2, k14, x2, i2, hF, rfl, h⟩
    obtain rfl := (h.sl 2 rfl).2
    rcases m2 with _ | m2
    · rw [impl_Block_cellLinks_L2] at hF
      cases hF
    rw [impl_Block_cellLinks_L2] at hF
    refine r_seq (r_region (rp rfl rfl (r_nil (r_seq ?_))))
    refine r_if rfl hF (fun hF => ?_) (fun hF => ?_)
    · refine r_skip (r_seq (r_block (r_seq (r_region ?_))))
      obtain ⟨y3, hy3, hF⟩ := bindS hF
      have he3 := idx_some hy3
      obtain ⟨b3, o_3, q3, cs5, hp3, hq3, -, hr4, hc5⟩ := (h.sl 0 rfl).1.at hy3
      obtain rfl := open_TA2_Int hr4
      refine r_v (v_ix tabOk hp3 hq3 ⟨he3.1, lt_ln he3.2.1 (h.sl 0 rfl).2⟩ rfl rfl rfl rfl rfl rfl) rfl (r_v (v_ld tabOk hc5 (j := 0) rfl rfl rfl) rfl (r_alloc tabOk h rfl rfl rfl ?_))
      intro w8 bb4 h
      refine r_stbox tabOk 0 h rfl rfl rfl rfl rfl rfl rfl ?_
      intro w9 h
      refine r_nil (r_region (rp rfl rfl (rp rfl rfl (rp rfl rfl (r_v (v_ld tabOk (h.box 2 rfl) (j := 1) rfl rfl rfl) rfl (rp rfl rfl (rp rfl rfl ?_)))))))
      refine r_v (v_ixA (iv := 0) tabOk rfl rfl (by decide) ⟨rfl, rfl⟩ rfl rfl) rfl ?_
      refine r_v (v_ld tabOk (h.box 0 rfl) (j := 0) rfl rfl rfl) rfl (rp rfl rfl (rp rfl rfl (rp rfl rfl (r_v (v_ld tabOk (h.box 2 rfl) (j := 2) rfl rfl rfl) rfl (rp rfl rfl (rp rfl rfl ?_))))))
      refine r_v (v_ixA (iv := 1) tabOk rfl rfl (by decide) ⟨rfl, rfl⟩ rfl rfl) rfl ?_
      refine r_v (v_ld tabOk (h.box 0 rfl) (j := 1) rfl rfl rfl) rfl (rp rfl rfl (rp rfl rfl (r_v (v_build tabOk [0, 1, 2, 3] [.tmp 41, .tmp 49, .const (.int .i64 (1)), .tmp 50] rfl rfl rfl rfl rfl rfl rfl rfl) rfl (r_bslice tabOk [.tmp 51] _ ([(⟨W64 ((W64 (2 * (W64 (first + y2.From)))) + y3.e0), W64 ((W64 (2 * (W64 (first + y2.To)))) + y3.e1), 1, i1⟩ : TLink)] : List TLink) h rfl rfl rfl rfl rfl rfl rfl rfl rfl ⟨(mkR_TLink (⟨W64 ((W64 (2 * (W64 (first + y2.From)))) + y3.e0), W64 ((W64 (2 * (W64 (first + y2.To)))) + y3.e1), 1, i1⟩ : TLink)), trivial⟩ rfl ?_))))
      intro w10 p15 S4 h
      obtain ⟨x3, hx1, hF⟩ := bindS hF
      obtain ⟨g1, hx1⟩ := appS_some hx1
      refine r_appE tabOk 4 h rfl (h.sl 0 rfl).1 (h.sl 0 rfl).2 rfl rfl rfl rfl rfl rfl rfl rfl rfl g1 hx1 rfl ?_
      intro w11 p16 k15 S5 h
      refine rp rfl rfl (r_nil (r_blk (r_region (rp rfl rfl (rp rfl rfl (r_nil ?_))))))
      replace h := h.pick [2, 3, 4] rfl
      exact r_back m2 [(2, _), (7, _), (8, _), (9, _), (19, _), (20, _), (21, _), (27, _), (28, _), (29, _)] (Nat.lt_succ_self m2) ⟨rfl, rfl, rfl, rfl, rfl, rfl, rfl, rfl, rfl, rfl, trivial⟩ ⟨_, _, _, _, _, _, hF, rfl, h⟩
    refine r_exit rfl ?_
    obtain rfl := someI hF; replace hF := hK2
    refine r_blk (r_region (rp rfl rfl (rp rfl rfl (r_nil ?_))))
    replace h := h.pick [2] rfl
    exact r_back m1 [(2, _), (7, _), (19, _), (20, _), (21, _)] (Nat.lt_succ_self m1) ⟨rfl, rfl, rfl, rfl, rfl, trivial⟩ ⟨_, _, _, _, _, _, hF, rfl, h⟩
  refine r_exit rfl ?_
  obtain rfl := someI hF; replace hF := hK1
  refine r_seq (r_region (rp rfl rfl (rp rfl rfl (r_nil ?_))))
  obtain rfl := someI hF
  exact r_retV tabOk (ρ := (List TLink)) [GoT.v (List TLink) [.slice p10 x1.length k10]] h ⟨rfl, trivial⟩ (PV.done h (pv_one (po_own 0 h rfl)))

def slices_Clone_int64 (_ : Nat) (s : (List Int)) : Option (List Int) :=
  appS ([] : List Int) s

theorem slices_Clone_int64_ok {n : Nat} {w : World} {s : (List Int)} {cs1 : List Value} (ha1 : GoT.R w (old w) s cs1) {r : (List Int)} (hF : slices_Clone_int64 n s = some r) : RetV Tryz.prog 132 [GoT.v (List Int) cs1] w r := by
  obtain ⟨p, k, rfl, s1⟩ := ha1
  obtain ⟨g1, hx⟩ := appS_some (show appS ([] : List Int) s = some r from hF)
  cases p with
  | none =>
    obtain rfl := slr_none s1
    obtain rfl : [] = r := hx
    refine retV_of_run Tryz.func132 rfl (m := 8) rfl rfl (fun h => ?_)
    refine r_seq (r_region (rp rfl rfl (r_nil (r_seq (r_seq (r_region (rp rfl rfl (r_v (v_eqnilS tabOk rfl rfl rfl rfl rfl) rfl (r_nil (r_condT rfl rfl (r_seq ?_)))))))))))
    exact r_region (rp rfl rfl (r_nil (r_retV tabOk (ρ := (List Int)) [GoT.v (List Int) [.slice none 0 0]] h ⟨rfl, trivial⟩ (PV.done h (pv_one po_nil)))))
  | some a =>
    refine retV_of_run Tryz.func132 rfl (m := 8) rfl rfl (fun h => ?_)
    refine r_seq (r_region (rp rfl rfl (r_nil (r_seq (r_seq (r_region (rp rfl rfl (r_v (v_eqnilS tabOk rfl rfl rfl rfl rfl) rfl (r_nil (r_condF rfl rfl (r_skip ?_)))))))))))
    refine r_seq (r_region (r_bslice tabOk [] _ ([] : List Int) h rfl rfl rfl rfl rfl rfl rfl rfl rfl trivial rfl ?_))
    intro w1 p1 S1 h
    refine rp rfl rfl (r_app tabOk 0 h rfl (h.oldS s1) rfl rfl rfl rfl rfl rfl rfl rfl rfl rfl g1 rfl ?_)
    intro w2 p2 k2 S2 h
    rw [hx] at h
    exact rp rfl rfl (r_nil (r_retV tabOk (ρ := (List Int)) [GoT.v (List Int) [.slice p2 (([] : List Int).length + s.length) k2]] h ⟨rfl, trivial⟩ (PV.done h (pv_one (po_own 0 h rfl)))))

def impl_Design_sinks_L1 (net : Int) (r1 : (List Tplace)) : Nat → (List Int) → Int → Option ((List Int) × Int)
  | 0, _, _ => none
  | n + 1, x1, i1 =>
    bif decide (i1 < (r1.length : Int)) then
      (idx r1 i1).bind fun y1 =>
      bif (y1.net == net) then
        bif (!y1.drives) then
          (appS x1 ([i1] : List Int)).bind fun x2 =>
          impl_Design_sinks_L1 net r1 n x2 (W64 (i1 + 1))
        else
          impl_Design_sinks_L1 net r1 n x1 (W64 (i1 + 1))
      else
        impl_Design_sinks_L1 net r1 n x1 (W64 (i1 + 1))
    else
      some (x1, i1)

def impl_Design_sinks (n : Nat) (d : TDesign) (net : Int) : Option (List Int) :=
  (impl_Design_places n d).bind fun r1 =>
  (impl_Design_sinks_L1 net r1 n ([] : List Int) 0).bind fun o => match o with
  | (x1, _) =>
    some x1

theorem impl_Design_sinks_ok {n : Nat} {w : World} {d : TDesign} {net : Int} {cs1 : List Value} (ha1 : GoT.R w (old w) d cs1) {r : (List Int)} (hF : impl_Design_sinks n d net = some r) : RetV Tryz.prog 133 [GoT.v TDesign cs1, .int .i64 net] w r := by
  obtain ⟨p1, k1, p2, k2, p3, k3, rfl, s1, s2, s3⟩ := open_TDesign ha1
  refine retV_of_run Tryz.func133 rfl (m := 31) rfl rfl (fun h => ?_)
  rw [impl_Design_sinks] at hF
  refine r_seq (r_region (r_box h rfl rfl ?_))
  intro w1 bb1 h
  refine rp rfl rfl (r_nil (r_seq (r_region (rp rfl rfl (r_nil (r_seq (r_seq (r_region (r_v (v_ld tabOk (h.box 0 rfl) (j := 0) rfl rfl rfl) rfl ?_)))))))))
  obtain ⟨r1, hr1, hF⟩ := bindS hF
  refine r_callL r1 h call76 (impl_Design_places_ok (h.old ha1) hr1) rfl rfl rfl rfl ?_
  intro w2 S1 p4 k4 h
  refine rp rfl rfl (rp rfl rfl (r_nil ?_))
  replace h := h.nil (α := Int)
  obtain ⟨o1, hF, hK1⟩ := bindS hF
  refine r_block ?_
  replace h := h.pick [0, 1] rfl
  refine r_sub [(1, _), (5, _), (9, _), (10, _), (11, _)] ⟨rfl, rfl, rfl, rfl, rfl, trivial⟩ ?_
  refine r_loop (fun m e w' => ∃ (S2 : Nat → Prop) (p5 : Option Addr) (ln1 : Nat) (k5 : Nat) (x1 : (List Int)) (i1 : Int), impl_Design_sinks_L1 net r1 m x1 i1 = some o1 ∧ e = [(1, .int .i64 net), (5, .slice p5 ln1 k5), (9, .slice p4 r1.length k4), (10, .int .i64 (r1.length : Int)), (11, .int .i64 i1)] ∧ SH w w' [Ch.own S2 (x1 : List Int) [.slice p5 ln1 k5], Ch.own S1 (r1 : List Tplace) [.slice p4 r1.length k4]]) n ⟨_, _, _, _, _, _, hF, rfl, h⟩ ?_
  rintro m1 e1 w3 ⟨S2, p5, ln1, k5, x1, i1, hF, rfl, h⟩
  obtain rfl := (h.sl 0 rfl).2
  rcases m1 with _ | m1
  · rw [impl_Design_sinks_L1] at hF
    cases hF
  rw [impl_Design_sinks_L1] at hF
  refine r_seq (r_region (rp rfl rfl (r_nil (r_seq ?_))))
  refine r_if rfl hF (fun hF => ?_) (fun hF => ?_)
  · refine r_skip (r_seq (r_block (r_seq (r_region (rp rfl rfl ?_)))))
    obtain ⟨y1, hy1, hF⟩ := bindS hF
    have he1 := idx_some hy1
    obtain ⟨b1, o_1, q1, cs2, hp1, hq1, -, hr2, hc2⟩ := (h.sl 1 rfl).1.at hy1
    obtain rfl := open_Tplace hr2
    refine r_v (v_ix tabOk hp1 hq1 ⟨he1.1, lt_ln he1.2.1 (h.sl 1 rfl).2⟩ rfl rfl rfl rfl rfl rfl) rfl (r_v (v_ld tabOk hc2 (j := 0) rfl rfl rfl) rfl (r_alloc tabOk h rfl rfl rfl ?_))
    intro w4 bb2 h
    refine rp rfl rfl (r_stbox tabOk 0 h rfl rfl rfl rfl rfl rfl rfl ?_)
    intro w5 h
    replace h : SH _ _ [Ch.box bb2 [.int .i64 y1.instance_, .int .i64 y1.pin, .int .i64 y1.net, .bool y1.drives] 97, Ch.own S2 (x1 : List Int) [.slice p5 x1.length k5], Ch.own S1 (r1 : List Tplace) [.slice p4 r1.length k4]] := h
    refine r_nil (r_seq (r_region (rp rfl rfl (r_v (v_ld tabOk (h.box 0 rfl) (j := 2) rfl rfl rfl) rfl (rp rfl rfl (rp rfl rfl (rp rfl rfl ?_)))))))
    by_cases hc3 : (y1.net == net) = true
    · replace hF := bifT hc3 hF
      refine r_setT hc3 (t := 20) rfl (r_wanted rfl (rp rfl rfl (r_wanted rfl (r_v (v_ld tabOk (h.box 0 rfl) (j := 3) rfl rfl rfl) rfl (r_wanted rfl (rp rfl rfl (rp rfl rfl (r_nil ?_))))))))
      refine r_if rfl hF (fun hF => ?_) (fun hF => ?_)
      · refine r_region (rp rfl rfl (rp rfl rfl (r_bslice tabOk [.tmp 26] _ ([i1] : List Int) h rfl rfl rfl rfl rfl rfl rfl rfl rfl ⟨rfl, trivial⟩ rfl ?_)))
        intro w6 p6 S3 h
        obtain ⟨x2, hx1, hF⟩ := bindS hF
        obtain ⟨g1, hx1⟩ := appS_some hx1
        refine r_appE tabOk 2 h rfl (h.sl 0 rfl).1 (h.sl 0 rfl).2 rfl rfl rfl rfl rfl rfl rfl rfl rfl g1 hx1 rfl ?_
        intro w7 p7 k6 S4 h
        refine rp rfl rfl (r_nil (r_blk (r_region (rp rfl rfl (rp rfl rfl (r_nil ?_))))))
        replace h := h.pick [2, 3] rfl
        exact r_back m1 [(1, _), (5, _), (9, _), (10, _), (11, _)] (Nat.lt_succ_self m1) ⟨rfl, rfl, rfl, rfl, rfl, trivial⟩ ⟨_, _, _, _, _, _, hF, rfl, h⟩
      refine r_skip (r_blk (r_region (rp rfl rfl (rp rfl rfl (r_nil ?_)))))
      replace h := h.pick [1, 2] rfl
      exact r_back m1 [(1, _), (5, _), (9, _), (10, _), (11, _)] (Nat.lt_succ_self m1) ⟨rfl, rfl, rfl, rfl, rfl, trivial⟩ ⟨_, _, _, _, _, _, hF, rfl, h⟩
    replace hc3 := Bool.eq_false_iff.2 hc3
    replace hF := bifF hc3 hF
    refine r_setF hc3 (t := 20) rfl (r_not rfl rfl rfl (r_not rfl rfl rfl (r_not rfl rfl rfl (rp rfl rfl (r_nil (r_condF rfl rfl (r_skip (r_blk (r_region (rp rfl rfl (rp rfl rfl ?_)))))))))))
    refine r_nil ?_
    replace h := h.pick [1, 2] rfl
    exact r_back m1 [(1, _), (5, _), (9, _), (10, _), (11, _)] (Nat.lt_succ_self m1) ⟨rfl, rfl, rfl, rfl, rfl, trivial⟩ ⟨_, _, _, _, _, _, hF, rfl, h⟩
  refine r_exit rfl ?_
  obtain rfl := someI hF; replace hF := hK1
  refine r_seq (r_region (rp rfl rfl (rp rfl rfl (r_nil ?_))))
  obtain rfl := someI hF
  exact r_retV tabOk (ρ := (List Int)) [GoT.v (List Int) [.slice p5 x1.length k5]] h ⟨rfl, trivial⟩ (PV.done h (pv_one (po_own 0 h rfl)))

def impl_Design_capOf (_ : Nat) (d : TDesign) (l : TLibrary) (p : Tplace) : Option Int :=
  bif decide (p.instance_ < 0) then
    some 0
  else
    (idx d.Instances p.instance_).bind fun y1 =>
    (idx l.Cells y1.Cell).bind fun y2 =>
    (idx y2.Pins p.pin).bind fun y3 =>
    some y3.Cap

theorem impl_Design_capOf_ok {n : Nat} {w : World} {d : TDesign} {l : TLibrary} {p : Tplace} {cs1 : List Value} (ha1 : GoT.R w (old w) d cs1) {cs2 : List Value} (ha2 : GoT.R w (old w) l cs2) {cs3 : List Value} (ha3 : GoT.R w (old w) p cs3) {r : Int} (hF : impl_Design_capOf n d l p = some r) : RetV Tryz.prog 134 [GoT.v TDesign cs1, GoT.v TLibrary cs2, GoT.v Tplace cs3] w r := by
  obtain ⟨p1, k1, p2, k2, p3, k3, rfl, s1, s2, s3⟩ := open_TDesign ha1
  obtain ⟨p4, k4, rfl, s4⟩ := open_TLibrary ha2
  obtain rfl := open_Tplace ha3
  refine retV_of_run Tryz.func134 rfl (m := 27) rfl rfl (fun h => ?_)
  rw [impl_Design_capOf] at hF
  refine r_seq (r_region (r_box h rfl rfl ?_))
  intro w1 bb1 h
  refine r_box h rfl rfl ?_
  intro w2 bb2 h
  refine r_box h rfl rfl ?_
  intro w3 bb3 h
  refine rp rfl rfl (r_nil (r_seq (r_seq (r_region (rp rfl rfl (r_v (v_ld tabOk (h.box 0 rfl) (j := 0) rfl rfl rfl) rfl (rp rfl rfl (r_nil ?_))))))))
  refine r_if rfl hF (fun hF => ?_) (fun hF => ?_)
  · exact r_seq (r_region (rp rfl rfl (r_nil (r_rI tabOk h hF ⟨rfl, trivial⟩))))
  refine r_skip (r_seq ?_)
  refine r_draw rfl (by kernel_rfl) ?_
  refine dp rfl rfl ?_
  refine d_v (fun _ hb => v_ld tabOk ((h.box 1 rfl).below hb) (j := 0) rfl rfl rfl) rfl ?_
  refine dp rfl rfl ?_
  refine d_v (fun _ hb => v_ld tabOk ((h.box 2 rfl).below hb) (j := 0) rfl rfl rfl) rfl ?_
  refine dp rfl rfl ?_
  refine d_v (fun _ hb => v_ld tabOk ((h.box 0 rfl).below hb) (j := 0) rfl rfl rfl) rfl ?_
  obtain ⟨y1, hy1, hF⟩ := bindS hF
  have he1 := idx_some hy1
  obtain ⟨b1, o_1, q1, cs4, hp1, hq1, -, hr1, hc2⟩ := s1.at hy1
  obtain ⟨p5, k5, rfl, s5⟩ := open_TInstance hr1
  refine d_v (fun _ hb => v_ix tabOk hp1 hq1 ⟨he1.1, he1.2.1⟩ rfl rfl rfl rfl rfl rfl) rfl ?_
  refine dp rfl rfl ?_
  refine d_v (fun _ hb => v_ld tabOk ((hc2.below h.below).below hb) (j := 1) rfl rfl rfl) rfl ?_
  obtain ⟨y2, hy2, hF⟩ := bindS hF
  have he2 := idx_some hy2
  obtain ⟨b2, o_2, q2, cs5, hp2, hq2, -, hr2, hc3⟩ := s4.at hy2
  obtain ⟨p6, k6, p7, k7, p8, k8, rfl, s6, s7, s8⟩ := open_TCell hr2
  refine d_v (fun _ hb => v_ix tabOk hp2 hq2 ⟨he2.1, he2.2.1⟩ rfl rfl rfl rfl rfl rfl) rfl ?_
  refine dp rfl rfl ?_
  refine d_v (fun _ hb => v_ld tabOk ((hc3.below h.below).below hb) (j := 2) rfl rfl rfl) rfl ?_
  refine dp rfl rfl ?_
  refine d_v (fun _ hb => v_ld tabOk ((h.box 0 rfl).below hb) (j := 1) rfl rfl rfl) rfl ?_
  obtain ⟨y3, hy3, hF⟩ := bindS hF
  have he3 := idx_some hy3
  obtain ⟨b3, o_3, q3, cs6, hp3, hq3, -, hr3, hc4⟩ := s6.at hy3
  obtain rfl := open_TPin hr3
  refine d_v (fun _ hb => v_ix tabOk hp3 hq3 ⟨he3.1, he3.2.1⟩ rfl rfl rfl rfl rfl rfl) rfl ?_
  refine dp rfl rfl ?_
  refine d_v (fun _ hb => v_ld tabOk ((hc4.below h.below).below hb) (j := 2) rfl rfl rfl) rfl ?_
  refine dp rfl rfl ?_
  refine d_nil (fun w4 hb => ?_)
  replace h := h.ext hb
  clear hb
  exact r_rI tabOk h hF ⟨rfl, trivial⟩

def impl_Block_nodeLoads_L2 (y1 : TWire) : Nat → (List Int) → Int → Option ((List Int) × Int)
  | 0, _, _ => none
  | n + 1, x2, i2 =>
    bif decide (i2 > 0) then
      (idx y1.Parent i2).bind fun y7 =>
      (idx x2 y7).bind fun y8 =>
      (idx x2 i2).bind fun y9 =>
      (idx x2 y7).bind fun _ =>
      impl_Block_nodeLoads_L2 y1 n (setS x2 y7 (W64 (y8 + y9))) (W64 (i2 - 1))
    else
      some (x2, i2)

def impl_Block_nodeLoads_L1 (a_0 : TBlock) (y1 : TWire) (r2 : (List Tplace)) (r3 : (List Int)) : Nat → (List Int) → Int → Option ((List Int) × Int)
  | 0, _, _ => none
  | n + 1, x1, i1 =>
    bif decide (i1 < (r3.length : Int)) then
      (idx r3 i1).bind fun y2 =>
      (idx y1.Sink i1).bind fun y3 =>
      (idx x1 y3).bind fun y4 =>
      (idx r2 y2).bind fun y5 =>
      (impl_Design_capOf n (⟨a_0.Design.Instances, a_0.Design.Nets, a_0.Design.Ports⟩ : TDesign) (⟨a_0.Library.Cells⟩ : TLibrary) y5).bind fun r4 =>
      (idx x1 y3).bind fun _ =>
      impl_Block_nodeLoads_L1 a_0 y1 r2 r3 n (setS x1 y3 (W64 (y4 + r4))) (W64 (i1 + 1))
    else
      some (x1, i1)

def impl_Block_nodeLoads (n : Nat) (a_0 : TBlock) (a_1 : Int) : Option (List Int) :=
  (idx a_0.Wires a_1).bind fun y1 =>
  (slices_Clone_int64 n y1.Cap).bind fun r1 =>
  (impl_Design_places n (⟨a_0.Design.Instances, a_0.Design.Nets, a_0.Design.Ports⟩ : TDesign)).bind fun r2 =>
  (impl_Design_sinks n (⟨a_0.Design.Instances, a_0.Design.Nets, a_0.Design.Ports⟩ : TDesign) a_1).bind fun r3 =>
  (impl_Block_nodeLoads_L1 a_0 y1 r2 r3 n r1 0).bind fun o => match o with
  | (x1, _) =>
    (impl_Block_nodeLoads_L2 y1 n x1 (W64 ((r1.length : Int) - 1))).bind fun o => match o with
    | (x2, _) =>
      some x2

theorem impl_Block_nodeLoads_ok {n : Nat} {w : World} {a_0 : TBlock} {a_1 : Int} {cs1 : List Value} (ha1 : GoT.R w (old w) a_0 cs1) {r : (List Int)} (hF : impl_Block_nodeLoads n a_0 a_1 = some r) : RetV Tryz.prog 80 [GoT.v TBlock cs1, .int .i64 a_1] w r := by
  obtain ⟨p1, k1, p2, k2, p3, k3, p4, k4, p5, k5, rfl, s1, s2, s3, s4, s5⟩ := open_TBlock ha1
  refine retV_of_run Tryz.func80 rfl (m := 74) rfl rfl (fun h => ?_)
  rw [impl_Block_nodeLoads] at hF
  refine r_seq (r_region (r_box h rfl rfl ?_))
  intro w1 bb1 h
  refine rp rfl rfl (r_nil (r_seq (r_region (rp rfl rfl (r_v (v_ld tabOk (h.box 0 rfl) (j := 4) rfl rfl rfl) rfl (rp rfl rfl ?_))))))
  obtain ⟨y1, hy1, hF⟩ := bindS hF
  have he1 := idx_some hy1
  obtain ⟨b1, o_1, q1, cs2, hp1, hq1, -, hr1, hc1⟩ := s5.at hy1
  obtain ⟨p6, k6, p7, k7, p8, k8, p9, k9, rfl, s6, s7, s8, s9⟩ := open_TWire hr1
  refine r_v (v_ix tabOk hp1 hq1 ⟨he1.1, he1.2.1⟩ rfl rfl rfl rfl rfl rfl) rfl (r_v (v_ld tabOk (hc1.below h.below) (j := 0) rfl rfl rfl) rfl (r_alloc tabOk h rfl rfl rfl ?_))
  intro w2 bb2 h
  refine r_stbox tabOk 0 h rfl rfl rfl rfl rfl rfl rfl ?_
  intro w3 h
  refine r_nil (r_seq (r_region (rp rfl rfl (r_v (v_ld tabOk (h.box 0 rfl) (j := 2) rfl rfl rfl) rfl ?_))))
  obtain ⟨r1, hr2, hF⟩ := bindS hF
  refine r_callL r1 h call132 (slices_Clone_int64_ok ⟨_, _, rfl, (h.oldS s8)⟩ hr2) rfl rfl rfl rfl ?_
  intro w4 S1 p10 k10 h
  refine rp rfl rfl (r_nil (r_seq (r_region (rp rfl rfl (r_v (v_ld tabOk (h.box 2 rfl) (j := 1) rfl rfl rfl) rfl ?_)))))
  obtain ⟨r2, hr3, hF⟩ := bindS hF
  refine r_callL r2 h call76 (impl_Design_places_ok (mkR_TDesign (⟨a_0.Design.Instances, a_0.Design.Nets, a_0.Design.Ports⟩ : TDesign) (h.oldS s2) (h.oldS s3) (h.oldS s4)) hr3) rfl rfl rfl rfl ?_
  intro w5 S2 p11 k11 h
  refine rp rfl rfl (r_nil (r_seq (r_seq (r_region (rp rfl rfl (r_v (v_ld tabOk (h.box 3 rfl) (j := 1) rfl rfl rfl) rfl (rp rfl rfl ?_)))))))
  obtain ⟨r3, hr4, hF⟩ := bindS hF
  refine r_callL r3 h call133 (impl_Design_sinks_ok (mkR_TDesign (⟨a_0.Design.Instances, a_0.Design.Nets, a_0.Design.Ports⟩ : TDesign) (h.oldS s2) (h.oldS s3) (h.oldS s4)) hr4) rfl rfl rfl rfl ?_
  intro w6 S3 p12 k12 h
  refine rp rfl rfl (rp rfl rfl (r_nil ?_))
  obtain ⟨o1, hF, hK1⟩ := bindS hF
  refine r_block (r_sub [(2, _), (5, _), (6, _), (7, _), (25, _), (26, _), (27, _)] ⟨rfl, rfl, rfl, rfl, rfl, rfl, rfl, trivial⟩ ?_)
  refine r_loop (fun m e w' => ∃ (x1 : (List Int)) (i1 : Int), impl_Block_nodeLoads_L1 a_0 y1 r2 r3 m x1 i1 = some o1 ∧ e = [(2, .pointer (some ⟨bb1, 0, none⟩)), (5, .pointer (some ⟨bb2, 0, none⟩)), (6, .slice p10 r1.length k10), (7, .slice p11 r2.length k11), (25, .slice p12 r3.length k12), (26, .int .i64 (r3.length : Int)), (27, .int .i64 i1)] ∧ SH w w' [Ch.own S3 (r3 : List Int) [.slice p12 r3.length k12], Ch.own S2 (r2 : List Tplace) [.slice p11 r2.length k11], Ch.own S1 (x1 : List Int) [.slice p10 r1.length k10], Ch.box bb2 [.slice p6 y1.Parent.length k6, .slice p7 y1.Res.length k7, .slice p8 y1.Cap.length k8, .slice p9 y1.Sink.length k9] 117, Ch.box bb1 [.slice p1 a_0.Library.Cells.length k1, .slice p2 a_0.Design.Instances.length k2, .slice p3 a_0.Design.Nets.length k3, .slice p4 a_0.Design.Ports.length k4, .slice p5 a_0.Wires.length k5] 48]) n ⟨_, _, hF, rfl, h⟩ ?_
  rintro m1 e1 w7 ⟨x1, i1, hF, rfl, h⟩
  rcases m1 with _ | m1
  · rw [impl_Block_nodeLoads_L1] at hF
    cases hF
  rw [impl_Block_nodeLoads_L1] at hF
  refine r_seq (r_region (rp rfl rfl (r_nil (r_seq ?_))))
  refine r_if rfl hF (fun hF => ?_) (fun hF => ?_)
  · refine r_skip (r_seq (r_block (r_seq (r_region (rp rfl rfl ?_)))))
    obtain ⟨y2, hy2, hF⟩ := bindS hF
    have he2 := idx_some hy2
    obtain ⟨b2, o_2, q2, cs3, hp2, hq2, -, hr5, hc3⟩ := (h.sl 0 rfl).1.at hy2
    obtain rfl := hr5
    refine r_v (v_ix tabOk hp2 hq2 ⟨he2.1, lt_ln he2.2.1 (h.sl 0 rfl).2⟩ rfl rfl rfl rfl rfl rfl) rfl (r_v (v_ld tabOk hc3 (j := 0) rfl rfl rfl) rfl (rp rfl rfl (rp rfl rfl (r_nil ?_))))
    refine r_any [19] (fun w' => SH w w' [Ch.own S2 (r2 : List Tplace) [.slice p11 r2.length k11], Ch.own S1 (x1 : List Int) [.slice p10 r1.length k10], Ch.box bb2 [.slice p6 y1.Parent.length k6, .slice p7 y1.Res.length k7, .slice p8 y1.Cap.length k8, .slice p9 y1.Sink.length k9] 117, Ch.box bb1 [.slice p1 a_0.Library.Cells.length k1, .slice p2 a_0.Design.Instances.length k2, .slice p3 a_0.Design.Nets.length k3, .slice p4 a_0.Design.Ports.length k4, .slice p5 a_0.Wires.length k5] 48]) rfl 20 rfl #[ff, ff, ff, ff, ff, ff, ff, ff, ff, ff, ff, ff, ff, ff, ff, ff, ff, ff, ff, ff] (by kernel_rfl) (fun w8 hb => ?_)
    replace h := h.ext hb
    clear hb
    refine a_take 0 rfl #[tt, ff, ff, ff, ff, ff, ff, ff, ff, ff, ff, ff, ff, ff, ff, ff, ff, ff, ff, ff] (by kernel_rfl) (by kernel_rfl) (fun w' hw => v_p tabOk rfl w') (h.pick [1, 2, 3, 4] rfl) rfl ?_
    refine a_take 1 rfl #[tt, tt, ff, ff, ff, ff, ff, ff, ff, ff, ff, ff, ff, ff, ff, ff, ff, ff, ff, ff] (by kernel_rfl) (by kernel_rfl) (fun w' hw => v_p tabOk rfl w') (h.pick [1, 2, 3, 4] rfl) rfl ?_
    refine a_take 2 rfl #[tt, tt, tt, ff, ff, ff, ff, ff, ff, ff, ff, ff, ff, ff, ff, ff, ff, ff, ff, ff] (by kernel_rfl) (by kernel_rfl) (fun w' hw => v_ld tabOk (hw.box 2 rfl) (j := 3) rfl rfl rfl) (h.pick [1, 2, 3, 4] rfl) rfl ?_
    refine a_take 3 rfl #[tt, tt, tt, tt, ff, ff, ff, ff, ff, ff, ff, ff, ff, ff, ff, ff, ff, ff, ff, ff] (by kernel_rfl) (by kernel_rfl) (fun w' hw => v_p tabOk rfl w') (h.pick [1, 2, 3, 4] rfl) rfl ?_
    obtain ⟨y3, hy3, hF⟩ := bindS hF
    have he3 := idx_some hy3
    obtain ⟨b3, o_3, q3, cs4, hp3, hq3, -, hr6, hc4⟩ := s9.at hy3
    obtain rfl := hr6
    refine a_take 4 rfl #[tt, tt, tt, tt, tt, ff, ff, ff, ff, ff, ff, ff, ff, ff, ff, ff, ff, ff, ff, ff] (by kernel_rfl) (by kernel_rfl) (fun w' hw => v_ix tabOk hp3 hq3 ⟨he3.1, he3.2.1⟩ rfl rfl rfl rfl rfl rfl) (h.pick [1, 2, 3, 4] rfl) rfl ?_
    refine a_take 5 rfl #[tt, tt, tt, tt, tt, tt, ff, ff, ff, ff, ff, ff, ff, ff, ff, ff, ff, ff, ff, ff] (by kernel_rfl) (by kernel_rfl) (fun w' hw => v_ld tabOk (hc4.below hw.below) (j := 0) rfl rfl rfl) (h.pick [1, 2, 3, 4] rfl) rfl ?_
    obtain ⟨y4, hy4, hF⟩ := bindS hF
    have he4 := idx_some hy4
    obtain ⟨b4, o_4, q4, cs5, hp4, hq4, -, hr7, hc5⟩ := (h.sl 2 rfl).1.at hy4
    obtain rfl := hr7
    refine a_take 6 rfl #[tt, tt, tt, tt, tt, tt, tt, ff, ff, ff, ff, ff, ff, ff, ff, ff, ff, ff, ff, ff] (by kernel_rfl) (by kernel_rfl) (fun w' hw => v_ix tabOk hp4 hq4 ⟨he4.1, lt_ln he4.2.1 (h.sl 2 rfl).2⟩ rfl rfl rfl rfl rfl rfl) (h.pick [1, 2, 3, 4] rfl) rfl ?_
    refine a_take 7 rfl #[tt, tt, tt, tt, tt, tt, tt, tt, ff, ff, ff, ff, ff, ff, ff, ff, ff, ff, ff, ff] (by kernel_rfl) (by kernel_rfl) (fun w' hw => v_ld tabOk (own_cells (w1 := w) (S1 := fun _ => False) hw 1 rfl hy4 hp4 hq4 rfl) (j := 0) rfl rfl rfl) (h.pick [1, 2, 3, 4] rfl) rfl ?_
    refine a_take 8 rfl #[tt, tt, tt, tt, tt, tt, tt, tt, tt, ff, ff, ff, ff, ff, ff, ff, ff, ff, ff, ff] (by kernel_rfl) (by kernel_rfl) (fun w' hw => v_p tabOk rfl w') (h.pick [1, 2, 3, 4] rfl) rfl ?_
    refine a_take 9 rfl #[tt, tt, tt, tt, tt, tt, tt, tt, tt, tt, ff, ff, ff, ff, ff, ff, ff, ff, ff, ff] (by kernel_rfl) (by kernel_rfl) (fun w' hw => v_ld tabOk (hw.box 3 rfl) (j := 1) rfl rfl rfl) (h.pick [1, 2, 3, 4] rfl) rfl ?_
    refine a_take 10 rfl #[tt, tt, tt, tt, tt, tt, tt, tt, tt, tt, tt, ff, ff, ff, ff, ff, ff, ff, ff, ff] (by kernel_rfl) (by kernel_rfl) (fun w' hw => v_p tabOk rfl w') (h.pick [1, 2, 3, 4] rfl) rfl ?_
    refine a_take 11 rfl #[tt, tt, tt, tt, tt, tt, tt, tt, tt, tt, tt, tt, ff, ff, ff, ff, ff, ff, ff, ff] (by kernel_rfl) (by kernel_rfl) (fun w' hw => v_ld tabOk (hw.box 3 rfl) (j := 0) rfl rfl rfl) (h.pick [1, 2, 3, 4] rfl) rfl ?_
    refine a_take 12 rfl #[tt, tt, tt, tt, tt, tt, tt, tt, tt, tt, tt, tt, tt, ff, ff, ff, ff, ff, ff, ff] (by kernel_rfl) (by kernel_rfl) (fun w' hw => v_p tabOk rfl w') (h.pick [1, 2, 3, 4] rfl) rfl ?_
    refine a_take 13 rfl #[tt, tt, tt, tt, tt, tt, tt, tt, tt, tt, tt, tt, tt, tt, ff, ff, ff, ff, ff, ff] (by kernel_rfl) (by kernel_rfl) (fun w' hw => v_p tabOk rfl w') (h.pick [1, 2, 3, 4] rfl) rfl ?_
    obtain ⟨y5, hy5, hF⟩ := bindS hF
    have he5 := idx_some hy5
    obtain ⟨b5, o_5, q5, cs6, hp5, hq5, -, hr8, hc6⟩ := (h.sl 1 rfl).1.at hy5
    obtain rfl := open_Tplace hr8
    refine a_take 14 rfl #[tt, tt, tt, tt, tt, tt, tt, tt, tt, tt, tt, tt, tt, tt, tt, ff, ff, ff, ff, ff] (by kernel_rfl) (by kernel_rfl) (fun w' hw => v_ix tabOk hp5 hq5 ⟨he5.1, lt_ln he5.2.1 (h.sl 1 rfl).2⟩ rfl rfl rfl rfl rfl rfl) (h.pick [1, 2, 3, 4] rfl) rfl ?_
    refine a_take 15 rfl #[tt, tt, tt, tt, tt, tt, tt, tt, tt, tt, tt, tt, tt, tt, tt, tt, ff, ff, ff, ff] (by kernel_rfl) (by kernel_rfl) (fun w' hw => v_ld tabOk (own_cells hw 0 rfl hy5 hp5 hq5 (mkR_Tplace (w := w) (S := fun _ => False) y5)) (j := 0) rfl rfl rfl) (h.pick [1, 2, 3, 4] rfl) rfl ?_
    refine a_only 16 rfl #[tt, tt, tt, tt, tt, tt, tt, tt, tt, tt, tt, tt, tt, tt, tt, tt, tt, ff, ff, ff] (by kernel_rfl) (by kernel_rfl) ?_
    obtain ⟨r4, hr9, hF⟩ := bindS hF
    refine r_callI r4 h call134 (impl_Design_capOf_ok (mkR_TDesign (⟨a_0.Design.Instances, a_0.Design.Nets, a_0.Design.Ports⟩ : TDesign) (h.oldS s2) (h.oldS s3) (h.oldS s4)) (mkR_TLibrary (⟨a_0.Library.Cells⟩ : TLibrary) (h.oldS s1)) (mkR_Tplace y5) hr9) rfl rfl rfl rfl ?_
    intro w9 h
    refine a_goal (fun _ => (h.pick [1, 2, 3, 4] rfl)) ?_
    refine a_take 17 rfl #[tt, tt, tt, tt, tt, tt, tt, tt, tt, tt, tt, tt, tt, tt, tt, tt, tt, tt, ff, ff] (by kernel_rfl) (by kernel_rfl) (fun w' hw => v_p tabOk rfl w') (h.pick [1, 2, 3, 4] rfl) rfl ?_
    obtain ⟨y6, hy6, hF⟩ := bindS hF
    have he6 := idx_some hy6
    obtain ⟨b6, o_6, q6, cs7, hp6, hq6, -, hr10, hc7⟩ := (h.sl 2 rfl).1.at hy6
    obtain rfl := hr10
    refine a_take 18 rfl #[tt, tt, tt, tt, tt, tt, tt, tt, tt, tt, tt, tt, tt, tt, tt, tt, tt, tt, tt, ff] (by kernel_rfl) (by kernel_rfl) (fun w' hw => v_ix tabOk hp6 hq6 ⟨he6.1, lt_ln he6.2.1 (h.sl 2 rfl).2⟩ rfl rfl rfl rfl rfl rfl) (h.pick [1, 2, 3, 4] rfl) rfl ?_
    refine a_only 19 rfl #[tt, tt, tt, tt, tt, tt, tt, tt, tt, tt, tt, tt, tt, tt, tt, tt, tt, tt, tt, tt] (by kernel_rfl) (by kernel_rfl) ?_
    refine r_stown tabOk 2 0 (W64 (y4 + r4)) h rfl hy6 hp6 hq6 rfl hc7 rfl rfl rfl rfl rfl rfl rfl ?_
    intro w10 h
    refine a_goal (fun hs => absurd (hs 19 (by decide)) (by decide)) ?_
    refine a_done (by kernel_rfl) ?_
    exact r_blk (r_region (rp rfl rfl (rp rfl rfl (r_nil (r_back m1 [(2, _), (5, _), (6, _), (7, _), (25, _), (26, _), (27, _)] (Nat.lt_succ_self m1) ⟨rfl, rfl, rfl, rfl, rfl, rfl, rfl, trivial⟩ ⟨_, _, hF, rfl, h⟩)))))
  refine r_exit rfl ?_
  obtain rfl := someI hF; replace hF := hK1
  refine r_seq (r_seq (r_region (rp rfl rfl (rp rfl rfl (rp rfl rfl (rp rfl rfl (r_nil ?_)))))))
  obtain ⟨o2, hF, hK2⟩ := bindS hF
  refine r_block ?_
  replace h := h.pick [2, 3] rfl
  refine r_sub [(5, _), (6, _), (10, _)] ⟨rfl, rfl, rfl, trivial⟩ ?_
  refine r_loop (fun m e w' => ∃ (x2 : (List Int)) (i2 : Int), impl_Block_nodeLoads_L2 y1 m x2 i2 = some o2 ∧ e = [(5, .pointer (some ⟨bb2, 0, none⟩)), (6, .slice p10 r1.length k10), (10, .int .i64 i2)] ∧ SH w w' [Ch.own S1 (x2 : List Int) [.slice p10 r1.length k10], Ch.box bb2 [.slice p6 y1.Parent.length k6, .slice p7 y1.Res.length k7, .slice p8 y1.Cap.length k8, .slice p9 y1.Sink.length k9] 117]) n ⟨_, _, hF, rfl, h⟩ ?_
  rintro m2 e2 w11 ⟨x2, i2, hF, rfl, h⟩
  rcases m2 with _ | m2
  · rw [impl_Block_nodeLoads_L2] at hF
    cases hF
  rw [impl_Block_nodeLoads_L2] at hF
  refine r_seq (r_seq (r_region (rp rfl rfl (rp rfl rfl (r_nil ?_)))))
  refine r_if rfl hF (fun hF => ?_) (fun hF => ?_)
  · refine r_skip (r_seq (r_block ?_))
    refine r_any [14] (fun w' => SH w w' [Ch.own S1 (x2 : List Int) [.slice p10 r1.length k10], Ch.box bb2 [.slice p6 y1.Parent.length k6, .slice p7 y1.Res.length k7, .slice p8 y1.Cap.length k8, .slice p9 y1.Sink.length k9] 117]) rfl 15 rfl #[ff, ff, ff, ff, ff, ff, ff, ff, ff, ff, ff, ff, ff, ff, ff] (by kernel_rfl) (fun w12 hb => ?_)
    replace h := h.ext hb
    clear hb
    refine a_take 0 rfl #[tt, ff, ff, ff, ff, ff, ff, ff, ff, ff, ff, ff, ff, ff, ff] (by kernel_rfl) (by kernel_rfl) (fun w' hw => v_p tabOk rfl w') (h.pick [0, 1] rfl) rfl ?_
    refine a_take 1 rfl #[tt, tt, ff, ff, ff, ff, ff, ff, ff, ff, ff, ff, ff, ff, ff] (by kernel_rfl) (by kernel_rfl) (fun w' hw => v_p tabOk rfl w') (h.pick [0, 1] rfl) rfl ?_
    refine a_take 2 rfl #[tt, tt, tt, ff, ff, ff, ff, ff, ff, ff, ff, ff, ff, ff, ff] (by kernel_rfl) (by kernel_rfl) (fun w' hw => v_ld tabOk (hw.box 1 rfl) (j := 0) rfl rfl rfl) (h.pick [0, 1] rfl) rfl ?_
    refine a_take 3 rfl #[tt, tt, tt, tt, ff, ff, ff, ff, ff, ff, ff, ff, ff, ff, ff] (by kernel_rfl) (by kernel_rfl) (fun w' hw => v_p tabOk rfl w') (h.pick [0, 1] rfl) rfl ?_
    obtain ⟨y7, hy7, hF⟩ := bindS hF
    have he7 := idx_some hy7
    obtain ⟨b7, o_7, q7, cs8, hp7, hq7, -, hr11, hc9⟩ := s6.at hy7
    obtain rfl := hr11
    refine a_take 4 rfl #[tt, tt, tt, tt, tt, ff, ff, ff, ff, ff, ff, ff, ff, ff, ff] (by kernel_rfl) (by kernel_rfl) (fun w' hw => v_ix tabOk hp7 hq7 ⟨he7.1, he7.2.1⟩ rfl rfl rfl rfl rfl rfl) (h.pick [0, 1] rfl) rfl ?_
    refine a_take 5 rfl #[tt, tt, tt, tt, tt, tt, ff, ff, ff, ff, ff, ff, ff, ff, ff] (by kernel_rfl) (by kernel_rfl) (fun w' hw => v_ld tabOk (hc9.below hw.below) (j := 0) rfl rfl rfl) (h.pick [0, 1] rfl) rfl ?_
    obtain ⟨y8, hy8, hF⟩ := bindS hF
    have he8 := idx_some hy8
    obtain ⟨b8, o_8, q8, cs9, hp8, hq8, -, hr12, hc10⟩ := (h.sl 0 rfl).1.at hy8
    obtain rfl := hr12
    refine a_take 6 rfl #[tt, tt, tt, tt, tt, tt, tt, ff, ff, ff, ff, ff, ff, ff, ff] (by kernel_rfl) (by kernel_rfl) (fun w' hw => v_ix tabOk hp8 hq8 ⟨he8.1, lt_ln he8.2.1 (h.sl 0 rfl).2⟩ rfl rfl rfl rfl rfl rfl) (h.pick [0, 1] rfl) rfl ?_
    refine a_take 7 rfl #[tt, tt, tt, tt, tt, tt, tt, tt, ff, ff, ff, ff, ff, ff, ff] (by kernel_rfl) (by kernel_rfl) (fun w' hw => v_ld tabOk (own_cells (w1 := w) (S1 := fun _ => False) hw 0 rfl hy8 hp8 hq8 rfl) (j := 0) rfl rfl rfl) (h.pick [0, 1] rfl) rfl ?_
    refine a_take 8 rfl #[tt, tt, tt, tt, tt, tt, tt, tt, tt, ff, ff, ff, ff, ff, ff] (by kernel_rfl) (by kernel_rfl) (fun w' hw => v_p tabOk rfl w') (h.pick [0, 1] rfl) rfl ?_
    refine a_take 9 rfl #[tt, tt, tt, tt, tt, tt, tt, tt, tt, tt, ff, ff, ff, ff, ff] (by kernel_rfl) (by kernel_rfl) (fun w' hw => v_p tabOk rfl w') (h.pick [0, 1] rfl) rfl ?_
    obtain ⟨y9, hy9, hF⟩ := bindS hF
    have he9 := idx_some hy9
    obtain ⟨b9, o_9, q9, cs10, hp9, hq9, -, hr13, hc11⟩ := (h.sl 0 rfl).1.at hy9
    obtain rfl := hr13
    refine a_take 10 rfl #[tt, tt, tt, tt, tt, tt, tt, tt, tt, tt, tt, ff, ff, ff, ff] (by kernel_rfl) (by kernel_rfl) (fun w' hw => v_ix tabOk hp9 hq9 ⟨he9.1, lt_ln he9.2.1 (h.sl 0 rfl).2⟩ rfl rfl rfl rfl rfl rfl) (h.pick [0, 1] rfl) rfl ?_
    refine a_take 11 rfl #[tt, tt, tt, tt, tt, tt, tt, tt, tt, tt, tt, tt, ff, ff, ff] (by kernel_rfl) (by kernel_rfl) (fun w' hw => v_ld tabOk (own_cells (w1 := w) (S1 := fun _ => False) hw 0 rfl hy9 hp9 hq9 rfl) (j := 0) rfl rfl rfl) (h.pick [0, 1] rfl) rfl ?_
    refine a_take 12 rfl #[tt, tt, tt, tt, tt, tt, tt, tt, tt, tt, tt, tt, tt, ff, ff] (by kernel_rfl) (by kernel_rfl) (fun w' hw => v_p tabOk rfl w') (h.pick [0, 1] rfl) rfl ?_
    obtain ⟨y10, hy10, hF⟩ := bindS hF
    have he10 := idx_some hy10
    obtain ⟨b10, o_10, q10, cs11, hp10, hq10, -, hr14, hc12⟩ := (h.sl 0 rfl).1.at hy10
    obtain rfl := hr14
    refine a_take 13 rfl #[tt, tt, tt, tt, tt, tt, tt, tt, tt, tt, tt, tt, tt, tt, ff] (by kernel_rfl) (by kernel_rfl) (fun w' hw => v_ix tabOk hp10 hq10 ⟨he10.1, lt_ln he10.2.1 (h.sl 0 rfl).2⟩ rfl rfl rfl rfl rfl rfl) (h.pick [0, 1] rfl) rfl ?_
    refine a_only 14 rfl #[tt, tt, tt, tt, tt, tt, tt, tt, tt, tt, tt, tt, tt, tt, tt] (by kernel_rfl) (by kernel_rfl) ?_
    refine r_stown tabOk 0 0 (W64 (y8 + y9)) h rfl hy10 hp10 hq10 rfl hc12 rfl rfl rfl rfl rfl rfl rfl ?_
    intro w13 h
    refine a_goal (fun hs => absurd (hs 14 (by decide)) (by decide)) ?_
    refine a_done (by kernel_rfl) ?_
    exact r_blk (r_region (rp rfl rfl (rp rfl rfl (rp rfl rfl (r_nil (r_back m2 [(5, _), (6, _), (10, _)] (Nat.lt_succ_self m2) ⟨rfl, rfl, rfl, trivial⟩ ⟨_, _, hF, rfl, h⟩))))))
  refine r_exit rfl ?_
  obtain rfl := someI hF; replace hF := hK2
  refine r_seq (r_region (rp rfl rfl (rp rfl rfl (r_nil ?_))))
  obtain rfl := someI hF
  exact r_retV tabOk (ρ := (List Int)) [GoT.v (List Int) [.slice p10 r1.length k10]] h ⟨rfl, trivial⟩ (PV.done h (pv_one (po_own 0 h rfl)))

def impl_Block_nodeDelays_L1 (y1 : TWire) (r1 : (List Int)) (x1 : (List Int)) : Nat → (List Int) → Int → Option ((List Int) × Int)
  | 0, _, _ => none
  | n + 1, x2, i1 =>
    bif decide (i1 < (x1.length : Int)) then
      (idx y1.Parent i1).bind fun y2 =>
      (idx x2 y2).bind fun y3 =>
      (idx y1.Res i1).bind fun y4 =>
      (idx r1 i1).bind fun y5 =>
      (idx x2 i1).bind fun _ =>
      impl_Block_nodeDelays_L1 y1 r1 x1 n (setS x2 i1 (W64 (y3 + (W64 (y4 * y5))))) (W64 (i1 + 1))
    else
      some (x2, i1)

def impl_Block_nodeDelays (n : Nat) (b : TBlock) (net : Int) : Option (List Int) :=
  (idx b.Wires net).bind fun y1 =>
  (impl_Block_nodeLoads n b net).bind fun r1 =>
  (mkS (r1.length : Int) (0 : Int)).bind fun x1 =>
  (impl_Block_nodeDelays_L1 y1 r1 x1 n x1 1).bind fun o => match o with
  | (x2, _) =>
    some x2

theorem impl_Block_nodeDelays_ok {n : Nat} {w : World} {b : TBlock} {net : Int} {cs1 : List Value} (ha1 : GoT.R w (old w) b cs1) {r : (List Int)} (hF : impl_Block_nodeDelays n b net = some r) : RetV Tryz.prog 135 [GoT.v TBlock cs1, .int .i64 net] w r := by
  obtain ⟨p1, k1, p2, k2, p3, k3, p4, k4, p5, k5, rfl, s1, s2, s3, s4, s5⟩ := open_TBlock ha1
  refine retV_of_run Tryz.func135 rfl (m := 49) rfl rfl (fun h => ?_)
  rw [impl_Block_nodeDelays] at hF
  refine r_seq (r_region (r_box h rfl rfl ?_))
  intro w1 bb1 h
  refine rp rfl rfl (r_nil (r_seq ?_))
  refine r_any [] (fun w' => SH w w' [Ch.box bb1 [.slice p1 b.Library.Cells.length k1, .slice p2 b.Design.Instances.length k2, .slice p3 b.Design.Nets.length k3, .slice p4 b.Design.Ports.length k4, .slice p5 b.Wires.length k5] 48]) rfl 11 rfl #[ff, ff, ff, ff, ff, ff, ff, ff, ff, ff, ff] (by kernel_rfl) (fun w2 hb => ?_)
  replace h := h.ext hb
  clear hb
  refine a_take 0 rfl #[tt, ff, ff, ff, ff, ff, ff, ff, ff, ff, ff] (by kernel_rfl) (by kernel_rfl) (fun w' hw => v_p tabOk rfl w') (h.pick [0] rfl) rfl ?_
  refine a_take 1 rfl #[tt, tt, ff, ff, ff, ff, ff, ff, ff, ff, ff] (by kernel_rfl) (by kernel_rfl) (fun w' hw => v_ld tabOk (hw.box 0 rfl) (j := 4) rfl rfl rfl) (h.pick [0] rfl) rfl ?_
  refine a_take 2 rfl #[tt, tt, tt, ff, ff, ff, ff, ff, ff, ff, ff] (by kernel_rfl) (by kernel_rfl) (fun w' hw => v_p tabOk rfl w') (h.pick [0] rfl) rfl ?_
  obtain ⟨y1, hy1, hF⟩ := bindS hF
  have he1 := idx_some hy1
  obtain ⟨b1, o_1, q1, cs2, hp1, hq1, -, hr1, hc1⟩ := s5.at hy1
  obtain ⟨p6, k6, p7, k7, p8, k8, p9, k9, rfl, s6, s7, s8, s9⟩ := open_TWire hr1
  refine a_take 3 rfl #[tt, tt, tt, tt, ff, ff, ff, ff, ff, ff, ff] (by kernel_rfl) (by kernel_rfl) (fun w' hw => v_ix tabOk hp1 hq1 ⟨he1.1, he1.2.1⟩ rfl rfl rfl rfl rfl rfl) (h.pick [0] rfl) rfl ?_
  refine a_take 4 rfl #[tt, tt, tt, tt, tt, ff, ff, ff, ff, ff, ff] (by kernel_rfl) (by kernel_rfl) (fun w' hw => v_ld tabOk (hc1.below hw.below) (j := 0) rfl rfl rfl) (h.pick [0] rfl) rfl ?_
  refine a_take 5 rfl #[tt, tt, tt, tt, tt, tt, ff, ff, ff, ff, ff] (by kernel_rfl) (by kernel_rfl) (fun w' hw => v_ld tabOk (hw.box 0 rfl) (j := 0) rfl rfl rfl) (h.pick [0] rfl) rfl ?_
  refine a_take 6 rfl #[tt, tt, tt, tt, tt, tt, tt, ff, ff, ff, ff] (by kernel_rfl) (by kernel_rfl) (fun w' hw => v_p tabOk rfl w') (h.pick [0] rfl) rfl ?_
  obtain ⟨r1, hr2, hF⟩ := bindS hF
  refine a_merge (fun e w' => ∃ (bb8 : Nat) (S7 : Nat → Prop) (p16 : Option Addr) (k16 : Nat), e = [(5, .pointer (some ⟨bb8, 0, none⟩)), (6, .slice p16 r1.length k16)] ∧ SH w w' [Ch.box bb8 [.slice p6 y1.Parent.length k6, .slice p7 y1.Res.length k7, .slice p8 y1.Cap.length k8, .slice p9 y1.Sink.length k9] 117, Ch.own S7 (r1 : List Int) [.slice p16 r1.length k16], Ch.box bb1 [.slice p1 b.Library.Cells.length k1, .slice p2 b.Design.Instances.length k2, .slice p3 b.Design.Nets.length k3, .slice p4 b.Design.Ports.length k4, .slice p5 b.Wires.length k5] 48]) 0 #[tt, tt, tt, tt, tt, tt, tt, tt, tt, tt, tt] ?_ ?_
  · intro K
    refine a_two 7 8 rfl rfl #[tt, tt, tt, tt, tt, tt, tt, tt, ff, ff, ff] #[tt, tt, tt, tt, tt, tt, tt, ff, tt, ff, ff] (by kernel_rfl) (by kernel_rfl) (by kernel_rfl) ?_ ?_
    · refine r_callL r1 h call80 (impl_Block_nodeLoads_ok (h.old ha1) hr2) rfl rfl rfl rfl ?_
      intro w13 S5 p14 k14 h
      refine a_goal (fun _ => (h.pick [1] rfl)) ?_
      refine a_only 8 rfl #[tt, tt, tt, tt, tt, tt, tt, tt, tt, ff, ff] (by kernel_rfl) (by kernel_rfl) ?_
      refine r_alloc tabOk h rfl rfl rfl ?_
      intro w14 bb6 h
      refine a_goal (fun _ => (h.pick [2] rfl)) ?_
      refine a_only 9 rfl #[tt, tt, tt, tt, tt, tt, tt, tt, tt, tt, ff] (by kernel_rfl) (by kernel_rfl) ?_
      refine r_stbox tabOk 0 h rfl rfl rfl rfl rfl rfl rfl ?_
      intro w15 h
      refine a_goal (fun _ => (h.pick [2] rfl)) ?_
      refine a_take 10 rfl #[tt, tt, tt, tt, tt, tt, tt, tt, tt, tt, tt] (by kernel_rfl) (by kernel_rfl) (fun w' hw => v_p tabOk rfl w') (h.pick [2] rfl) rfl ?_
      exact a_sub [(5, _), (6, _)] ⟨rfl, rfl, trivial⟩ (K _ _ ⟨_, _, _, _, rfl, h⟩)
    refine r_alloc tabOk h rfl rfl rfl ?_
    intro w16 bb7 h
    refine a_goal (fun _ => (h.pick [1] rfl)) ?_
    refine a_only 7 rfl #[tt, tt, tt, tt, tt, tt, tt, tt, tt, ff, ff] (by kernel_rfl) (by kernel_rfl) ?_
    refine r_callL r1 h call80 (impl_Block_nodeLoads_ok (h.old ha1) hr2) rfl rfl rfl rfl ?_
    intro w17 S6 p15 k15 h
    refine a_goal (fun _ => (h.pick [2] rfl)) ?_
    refine a_only 9 rfl #[tt, tt, tt, tt, tt, tt, tt, tt, tt, tt, ff] (by kernel_rfl) (by kernel_rfl) ?_
    refine r_stbox tabOk 1 h rfl rfl rfl rfl rfl rfl rfl ?_
    intro w18 h
    replace h : SH _ _ [Ch.own S6 (r1 : List Int) [.slice p15 r1.length k15], Ch.box bb7 [.slice p6 y1.Parent.length k6, .slice p7 y1.Res.length k7, .slice p8 y1.Cap.length k8, .slice p9 y1.Sink.length k9] 117, Ch.box bb1 [.slice p1 b.Library.Cells.length k1, .slice p2 b.Design.Instances.length k2, .slice p3 b.Design.Nets.length k3, .slice p4 b.Design.Ports.length k4, .slice p5 b.Wires.length k5] 48] := h
    refine a_goal (fun _ => (h.pick [2] rfl)) ?_
    refine a_take 10 rfl #[tt, tt, tt, tt, tt, tt, tt, tt, tt, tt, tt] (by kernel_rfl) (by kernel_rfl) (fun w' hw => v_p tabOk rfl w') (h.pick [2] rfl) rfl ?_
    replace h := h.pick [1, 0, 2] rfl
    exact a_sub [(5, _), (6, _)] ⟨rfl, rfl, trivial⟩ (K _ _ ⟨_, _, _, _, rfl, h⟩)
  rintro e2 w19 ⟨bb8, S7, p16, k16, rfl, h⟩
  refine a_done (by kernel_rfl) ?_
  refine r_seq (r_region (rp rfl rfl (rp rfl rfl ?_)))
  obtain ⟨x1, hx1, hF⟩ := bindS hF
  obtain ⟨g1, g2, hx1⟩ := mkS_some hx1
  refine r_makeE tabOk Int h rfl rfl rfl rfl rfl rfl rfl rfl rfl g1 g2 hx1 rfl ?_
  intro w20 S8 p17 h
  refine rp rfl rfl (r_nil (r_seq (r_seq (r_region (rp rfl rfl (r_nil ?_))))))
  obtain ⟨o1, hF, hK1⟩ := bindS hF
  refine r_block ?_
  replace h := h.pick [0, 1, 2] rfl
  refine r_sub [(5, _), (6, _), (7, _), (8, _)] ⟨rfl, rfl, rfl, rfl, trivial⟩ ?_
  refine r_loop (fun m e w' => ∃ (x2 : (List Int)) (i1 : Int), impl_Block_nodeDelays_L1 y1 r1 x1 m x2 i1 = some o1 ∧ e = [(5, .pointer (some ⟨bb8, 0, none⟩)), (6, .slice p16 r1.length k16), (7, .slice p17 x1.length x1.length), (8, .int .i64 i1)] ∧ SH w w' [Ch.own S8 (x2 : List Int) [.slice p17 x1.length x1.length], Ch.box bb8 [.slice p6 y1.Parent.length k6, .slice p7 y1.Res.length k7, .slice p8 y1.Cap.length k8, .slice p9 y1.Sink.length k9] 117, Ch.own S7 (r1 : List Int) [.slice p16 r1.length k16]]) n ⟨_, _, hF, rfl, h⟩ ?_
  rintro m1 e3 w21 ⟨x2, i1, hF, rfl, h⟩
  rcases m1 with _ | m1
  · rw [impl_Block_nodeDelays_L1] at hF
    cases hF
  rw [impl_Block_nodeDelays_L1] at hF
  refine r_seq (r_seq (r_region (rp rfl rfl (rp rfl rfl (rp rfl rfl (rp rfl rfl (r_nil ?_)))))))
  refine r_if rfl hF (fun hF => ?_) (fun hF => ?_)
  · refine r_skip (r_seq (r_block ?_))
    refine r_any [22] (fun w' => SH w w' [Ch.own S8 (x2 : List Int) [.slice p17 x1.length x1.length], Ch.box bb8 [.slice p6 y1.Parent.length k6, .slice p7 y1.Res.length k7, .slice p8 y1.Cap.length k8, .slice p9 y1.Sink.length k9] 117, Ch.own S7 (r1 : List Int) [.slice p16 r1.length k16]]) rfl 23 rfl #[ff, ff, ff, ff, ff, ff, ff, ff, ff, ff, ff, ff, ff, ff, ff, ff, ff, ff, ff, ff, ff, ff, ff] (by kernel_rfl) (fun w22 hb => ?_)
    replace h := h.ext hb
    clear hb
    refine a_take 0 rfl #[tt, ff, ff, ff, ff, ff, ff, ff, ff, ff, ff, ff, ff, ff, ff, ff, ff, ff, ff, ff, ff, ff, ff] (by kernel_rfl) (by kernel_rfl) (fun w' hw => v_p tabOk rfl w') (h.pick [0, 1, 2] rfl) rfl ?_
    refine a_take 1 rfl #[tt, tt, ff, ff, ff, ff, ff, ff, ff, ff, ff, ff, ff, ff, ff, ff, ff, ff, ff, ff, ff, ff, ff] (by kernel_rfl) (by kernel_rfl) (fun w' hw => v_p tabOk rfl w') (h.pick [0, 1, 2] rfl) rfl ?_
    refine a_take 2 rfl #[tt, tt, tt, ff, ff, ff, ff, ff, ff, ff, ff, ff, ff, ff, ff, ff, ff, ff, ff, ff, ff, ff, ff] (by kernel_rfl) (by kernel_rfl) (fun w' hw => v_p tabOk rfl w') (h.pick [0, 1, 2] rfl) rfl ?_
    refine a_take 3 rfl #[tt, tt, tt, tt, ff, ff, ff, ff, ff, ff, ff, ff, ff, ff, ff, ff, ff, ff, ff, ff, ff, ff, ff] (by kernel_rfl) (by kernel_rfl) (fun w' hw => v_p tabOk rfl w') (h.pick [0, 1, 2] rfl) rfl ?_
    refine a_take 4 rfl #[tt, tt, tt, tt, tt, ff, ff, ff, ff, ff, ff, ff, ff, ff, ff, ff, ff, ff, ff, ff, ff, ff, ff] (by kernel_rfl) (by kernel_rfl) (fun w' hw => v_ld tabOk (hw.box 1 rfl) (j := 0) rfl rfl rfl) (h.pick [0, 1, 2] rfl) rfl ?_
    refine a_take 5 rfl #[tt, tt, tt, tt, tt, tt, ff, ff, ff, ff, ff, ff, ff, ff, ff, ff, ff, ff, ff, ff, ff, ff, ff] (by kernel_rfl) (by kernel_rfl) (fun w' hw => v_p tabOk rfl w') (h.pick [0, 1, 2] rfl) rfl ?_
    obtain ⟨y2, hy2, hF⟩ := bindS hF
    have he2 := idx_some hy2
    obtain ⟨b2, o_2, q2, cs3, hp2, hq2, -, hr3, hc3⟩ := s6.at hy2
    obtain rfl := hr3
    refine a_take 6 rfl #[tt, tt, tt, tt, tt, tt, tt, ff, ff, ff, ff, ff, ff, ff, ff, ff, ff, ff, ff, ff, ff, ff, ff] (by kernel_rfl) (by kernel_rfl) (fun w' hw => v_ix tabOk hp2 hq2 ⟨he2.1, he2.2.1⟩ rfl rfl rfl rfl rfl rfl) (h.pick [0, 1, 2] rfl) rfl ?_
    refine a_take 7 rfl #[tt, tt, tt, tt, tt, tt, tt, tt, ff, ff, ff, ff, ff, ff, ff, ff, ff, ff, ff, ff, ff, ff, ff] (by kernel_rfl) (by kernel_rfl) (fun w' hw => v_ld tabOk (hc3.below hw.below) (j := 0) rfl rfl rfl) (h.pick [0, 1, 2] rfl) rfl ?_
    obtain ⟨y3, hy3, hF⟩ := bindS hF
    have he3 := idx_some hy3
    obtain ⟨b3, o_3, q3, cs4, hp3, hq3, -, hr4, hc4⟩ := (h.sl 0 rfl).1.at hy3
    obtain rfl := hr4
    refine a_take 8 rfl #[tt, tt, tt, tt, tt, tt, tt, tt, tt, ff, ff, ff, ff, ff, ff, ff, ff, ff, ff, ff, ff, ff, ff] (by kernel_rfl) (by kernel_rfl) (fun w' hw => v_ix tabOk hp3 hq3 ⟨he3.1, lt_ln he3.2.1 (h.sl 0 rfl).2⟩ rfl rfl rfl rfl rfl rfl) (h.pick [0, 1, 2] rfl) rfl ?_
    refine a_take 9 rfl #[tt, tt, tt, tt, tt, tt, tt, tt, tt, tt, ff, ff, ff, ff, ff, ff, ff, ff, ff, ff, ff, ff, ff] (by kernel_rfl) (by kernel_rfl) (fun w' hw => v_ld tabOk (own_cells (w1 := w) (S1 := fun _ => False) hw 0 rfl hy3 hp3 hq3 rfl) (j := 0) rfl rfl rfl) (h.pick [0, 1, 2] rfl) rfl ?_
    refine a_take 10 rfl #[tt, tt, tt, tt, tt, tt, tt, tt, tt, tt, tt, ff, ff, ff, ff, ff, ff, ff, ff, ff, ff, ff, ff] (by kernel_rfl) (by kernel_rfl) (fun w' hw => v_p tabOk rfl w') (h.pick [0, 1, 2] rfl) rfl ?_
    refine a_take 11 rfl #[tt, tt, tt, tt, tt, tt, tt, tt, tt, tt, tt, tt, ff, ff, ff, ff, ff, ff, ff, ff, ff, ff, ff] (by kernel_rfl) (by kernel_rfl) (fun w' hw => v_ld tabOk (hw.box 1 rfl) (j := 1) rfl rfl rfl) (h.pick [0, 1, 2] rfl) rfl ?_
    refine a_take 12 rfl #[tt, tt, tt, tt, tt, tt, tt, tt, tt, tt, tt, tt, tt, ff, ff, ff, ff, ff, ff, ff, ff, ff, ff] (by kernel_rfl) (by kernel_rfl) (fun w' hw => v_p tabOk rfl w') (h.pick [0, 1, 2] rfl) rfl ?_
    obtain ⟨y4, hy4, hF⟩ := bindS hF
    have he4 := idx_some hy4
    obtain ⟨b4, o_4, q4, cs5, hp4, hq4, -, hr5, hc5⟩ := s7.at hy4
    obtain rfl := hr5
    refine a_take 13 rfl #[tt, tt, tt, tt, tt, tt, tt, tt, tt, tt, tt, tt, tt, tt, ff, ff, ff, ff, ff, ff, ff, ff, ff] (by kernel_rfl) (by kernel_rfl) (fun w' hw => v_ix tabOk hp4 hq4 ⟨he4.1, he4.2.1⟩ rfl rfl rfl rfl rfl rfl) (h.pick [0, 1, 2] rfl) rfl ?_
    refine a_take 14 rfl #[tt, tt, tt, tt, tt, tt, tt, tt, tt, tt, tt, tt, tt, tt, tt, ff, ff, ff, ff, ff, ff, ff, ff] (by kernel_rfl) (by kernel_rfl) (fun w' hw => v_ld tabOk (hc5.below hw.below) (j := 0) rfl rfl rfl) (h.pick [0, 1, 2] rfl) rfl ?_
    refine a_take 15 rfl #[tt, tt, tt, tt, tt, tt, tt, tt, tt, tt, tt, tt, tt, tt, tt, tt, ff, ff, ff, ff, ff, ff, ff] (by kernel_rfl) (by kernel_rfl) (fun w' hw => v_p tabOk rfl w') (h.pick [0, 1, 2] rfl) rfl ?_
    refine a_take 16 rfl #[tt, tt, tt, tt, tt, tt, tt, tt, tt, tt, tt, tt, tt, tt, tt, tt, tt, ff, ff, ff, ff, ff, ff] (by kernel_rfl) (by kernel_rfl) (fun w' hw => v_p tabOk rfl w') (h.pick [0, 1, 2] rfl) rfl ?_
    obtain ⟨y5, hy5, hF⟩ := bindS hF
    have he5 := idx_some hy5
    obtain ⟨b5, o_5, q5, cs6, hp5, hq5, -, hr6, hc6⟩ := (h.sl 2 rfl).1.at hy5
    obtain rfl := hr6
    refine a_take 17 rfl #[tt, tt, tt, tt, tt, tt, tt, tt, tt, tt, tt, tt, tt, tt, tt, tt, tt, tt, ff, ff, ff, ff, ff] (by kernel_rfl) (by kernel_rfl) (fun w' hw => v_ix tabOk hp5 hq5 ⟨he5.1, lt_ln he5.2.1 (h.sl 2 rfl).2⟩ rfl rfl rfl rfl rfl rfl) (h.pick [0, 1, 2] rfl) rfl ?_
    refine a_take 18 rfl #[tt, tt, tt, tt, tt, tt, tt, tt, tt, tt, tt, tt, tt, tt, tt, tt, tt, tt, tt, ff, ff, ff, ff] (by kernel_rfl) (by kernel_rfl) (fun w' hw => v_ld tabOk (own_cells (w1 := w) (S1 := fun _ => False) hw 2 rfl hy5 hp5 hq5 rfl) (j := 0) rfl rfl rfl) (h.pick [0, 1, 2] rfl) rfl ?_
    refine a_take 19 rfl #[tt, tt, tt, tt, tt, tt, tt, tt, tt, tt, tt, tt, tt, tt, tt, tt, tt, tt, tt, tt, ff, ff, ff] (by kernel_rfl) (by kernel_rfl) (fun w' hw => v_p tabOk rfl w') (h.pick [0, 1, 2] rfl) rfl ?_
    refine a_take 20 rfl #[tt, tt, tt, tt, tt, tt, tt, tt, tt, tt, tt, tt, tt, tt, tt, tt, tt, tt, tt, tt, tt, ff, ff] (by kernel_rfl) (by kernel_rfl) (fun w' hw => v_p tabOk rfl w') (h.pick [0, 1, 2] rfl) rfl ?_
    obtain ⟨y6, hy6, hF⟩ := bindS hF
    have he6 := idx_some hy6
    obtain ⟨b6, o_6, q6, cs7, hp6, hq6, -, hr7, hc7⟩ := (h.sl 0 rfl).1.at hy6
    obtain rfl := hr7
    refine a_take 21 rfl #[tt, tt, tt, tt, tt, tt, tt, tt, tt, tt, tt, tt, tt, tt, tt, tt, tt, tt, tt, tt, tt, tt, ff] (by kernel_rfl) (by kernel_rfl) (fun w' hw => v_ix tabOk hp6 hq6 ⟨he6.1, lt_ln he6.2.1 (h.sl 0 rfl).2⟩ rfl rfl rfl rfl rfl rfl) (h.pick [0, 1, 2] rfl) rfl ?_
    refine a_only 22 rfl #[tt, tt, tt, tt, tt, tt, tt, tt, tt, tt, tt, tt, tt, tt, tt, tt, tt, tt, tt, tt, tt, tt, tt] (by kernel_rfl) (by kernel_rfl) ?_
    refine r_stown tabOk 0 0 (W64 (y3 + (W64 (y4 * y5)))) h rfl hy6 hp6 hq6 rfl hc7 rfl rfl rfl rfl rfl rfl rfl ?_
    intro w23 h
    refine a_goal (fun hs => absurd (hs 22 (by decide)) (by decide)) ?_
    refine a_done (by kernel_rfl) ?_
    exact r_blk (r_region (rp rfl rfl (rp rfl rfl (rp rfl rfl (r_nil (r_back m1 [(5, _), (6, _), (7, _), (8, _)] (Nat.lt_succ_self m1) ⟨rfl, rfl, rfl, rfl, trivial⟩ ⟨_, _, hF, rfl, h⟩))))))
  refine r_exit rfl ?_
  obtain rfl := someI hF; replace hF := hK1
  refine r_seq (r_region (rp rfl rfl (rp rfl rfl (r_nil ?_))))
  obtain rfl := someI hF
  exact r_retV tabOk (ρ := (List Int)) [GoT.v (List Int) [.slice p17 x1.length x1.length]] h ⟨rfl, trivial⟩ (PV.done h (pv_one (po_own 0 h rfl)))

def impl_Block_exactDelays_L1 (r1 : (List Int)) (y1 : TWire) : Nat → (List Int) → Int → Option ((List Int) × Int)
  | 0, _, _ => none
  | n + 1, x1, i1 =>
    bif decide (i1 < (y1.Sink.length : Int)) then
      (idx y1.Sink i1).bind fun y2 =>
      (idx r1 y2).bind fun y3 =>
      (appS x1 ([y3] : List Int)).bind fun x2 =>
      impl_Block_exactDelays_L1 r1 y1 n x2 (W64 (i1 + 1))
    else
      some (x1, i1)

def impl_Block_exactDelays (n : Nat) (b : TBlock) (net : Int) : Option (List Int) :=
  (impl_Block_nodeDelays n b net).bind fun r1 =>
  (idx b.Wires net).bind fun y1 =>
  (impl_Block_exactDelays_L1 r1 y1 n ([] : List Int) 0).bind fun o => match o with
  | (x1, _) =>
    some x1

theorem impl_Block_exactDelays_ok {n : Nat} {w : World} {b : TBlock} {net : Int} {cs1 : List Value} (ha1 : GoT.R w (old w) b cs1) {r : (List Int)} (hF : impl_Block_exactDelays n b net = some r) : RetV Tryz.prog 81 [GoT.v TBlock cs1, .int .i64 net] w r := by
  obtain ⟨p1, k1, p2, k2, p3, k3, p4, k4, p5, k5, rfl, s1, s2, s3, s4, s5⟩ := open_TBlock ha1
  refine retV_of_run Tryz.func81 rfl (m := 32) rfl rfl (fun h => ?_)
  rw [impl_Block_exactDelays] at hF
  refine r_seq (r_region (r_box h rfl rfl ?_))
  intro w1 bb1 h
  refine rp rfl rfl (r_nil (r_seq (r_region (r_v (v_ld tabOk (h.box 0 rfl) (j := 0) rfl rfl rfl) rfl (rp rfl rfl ?_)))))
  obtain ⟨r1, hr1, hF⟩ := bindS hF
  refine r_callL r1 h call135 (impl_Block_nodeDelays_ok (h.old ha1) hr1) rfl rfl rfl rfl ?_
  intro w2 S1 p6 k6 h
  refine rp rfl rfl (r_nil (r_seq (r_region (rp rfl rfl (r_nil (r_seq (r_seq (r_region (rp rfl rfl (r_v (v_ld tabOk (h.box 1 rfl) (j := 4) rfl rfl rfl) rfl (rp rfl rfl ?_)))))))))))
  obtain ⟨y1, hy1, hF⟩ := bindS hF
  have he1 := idx_some hy1
  obtain ⟨b1, o_1, q1, cs2, hp1, hq1, -, hr2, hc1⟩ := s5.at hy1
  obtain ⟨p7, k7, p8, k8, p9, k9, p10, k10, rfl, s6, s7, s8, s9⟩ := open_TWire hr2
  refine r_v (v_ix tabOk hp1 hq1 ⟨he1.1, he1.2.1⟩ rfl rfl rfl rfl rfl rfl) rfl (rp rfl rfl (r_v (v_ld tabOk (hc1.below h.below) (j := 3) rfl rfl rfl) rfl (rp rfl rfl (rp rfl rfl (r_nil ?_)))))
  replace h := h.nil (α := Int)
  obtain ⟨o1, hF, hK1⟩ := bindS hF
  refine r_block ?_
  replace h := h.pick [0, 1] rfl
  refine r_sub [(5, _), (6, _), (17, _), (18, _), (19, _)] ⟨rfl, rfl, rfl, rfl, rfl, trivial⟩ ?_
  refine r_loop (fun m e w' => ∃ (S2 : Nat → Prop) (p11 : Option Addr) (ln1 : Nat) (k11 : Nat) (x1 : (List Int)) (i1 : Int), impl_Block_exactDelays_L1 r1 y1 m x1 i1 = some o1 ∧ e = [(5, .slice p6 r1.length k6), (6, .slice p11 ln1 k11), (17, .slice p10 y1.Sink.length k10), (18, .int .i64 (y1.Sink.length : Int)), (19, .int .i64 i1)] ∧ SH w w' [Ch.own S2 (x1 : List Int) [.slice p11 ln1 k11], Ch.own S1 (r1 : List Int) [.slice p6 r1.length k6]]) n ⟨_, _, _, _, _, _, hF, rfl, h⟩ ?_
  rintro m1 e1 w3 ⟨S2, p11, ln1, k11, x1, i1, hF, rfl, h⟩
  obtain rfl := (h.sl 0 rfl).2
  rcases m1 with _ | m1
  · rw [impl_Block_exactDelays_L1] at hF
    cases hF
  rw [impl_Block_exactDelays_L1] at hF
  refine r_seq (r_region (rp rfl rfl (r_nil (r_seq ?_))))
  refine r_if rfl hF (fun hF => ?_) (fun hF => ?_)
  · refine r_skip (r_seq (r_block (r_seq (r_region ?_))))
    obtain ⟨y2, hy2, hF⟩ := bindS hF
    have he2 := idx_some hy2
    obtain ⟨b2, o_2, q2, cs3, hp2, hq2, -, hr3, hc3⟩ := s9.at hy2
    obtain rfl := hr3
    refine r_v (v_ix tabOk hp2 hq2 ⟨he2.1, he2.2.1⟩ rfl rfl rfl rfl rfl rfl) rfl (r_v (v_ld tabOk (hc3.below h.below) (j := 0) rfl rfl rfl) rfl (rp rfl rfl (r_nil (r_region (rp rfl rfl (rp rfl rfl (rp rfl rfl ?_)))))))
    obtain ⟨y3, hy3, hF⟩ := bindS hF
    have he3 := idx_some hy3
    obtain ⟨b3, o_3, q3, cs4, hp3, hq3, -, hr4, hc4⟩ := (h.sl 1 rfl).1.at hy3
    obtain rfl := hr4
    refine r_v (v_ix tabOk hp3 hq3 ⟨he3.1, lt_ln he3.2.1 (h.sl 1 rfl).2⟩ rfl rfl rfl rfl rfl rfl) rfl (r_v (v_ld tabOk hc4 (j := 0) rfl rfl rfl) rfl (r_bslice tabOk [.tmp 27] _ ([y3] : List Int) h rfl rfl rfl rfl rfl rfl rfl rfl rfl ⟨rfl, trivial⟩ rfl ?_))
    intro w4 p12 S3 h
    obtain ⟨x2, hx1, hF⟩ := bindS hF
    obtain ⟨g1, hx1⟩ := appS_some hx1
    refine r_appE tabOk 1 h rfl (h.sl 0 rfl).1 (h.sl 0 rfl).2 rfl rfl rfl rfl rfl rfl rfl rfl rfl g1 hx1 rfl ?_
    intro w5 p13 k12 S4 h
    refine rp rfl rfl (r_nil (r_blk (r_region (rp rfl rfl (rp rfl rfl (r_nil ?_))))))
    replace h := h.pick [1, 2] rfl
    exact r_back m1 [(5, _), (6, _), (17, _), (18, _), (19, _)] (Nat.lt_succ_self m1) ⟨rfl, rfl, rfl, rfl, rfl, trivial⟩ ⟨_, _, _, _, _, _, hF, rfl, h⟩
  refine r_exit rfl ?_
  obtain rfl := someI hF; replace hF := hK1
  refine r_seq (r_region (rp rfl rfl (rp rfl rfl (r_nil ?_))))
  obtain rfl := someI hF
  exact r_retV tabOk (ρ := (List Int)) [GoT.v (List Int) [.slice p11 x1.length k11]] h ⟨rfl, trivial⟩ (PV.done h (pv_one (po_own 0 h rfl)))

def impl_newView_L5 (x6 : (List Int)) (i4 : Int) (i5 : Int) (y7 : Int) : Nat → (List TLink) → Int → Option ((List TLink) × Int)
  | 0, _, _ => none
  | n + 1, x14, i6 =>
    bif decide (i6 < 2) then
      (idx x6 i4).bind fun y8 =>
      (appS x14 ([(⟨W64 ((W64 (2 * y8)) + i6), W64 ((W64 (2 * y7)) + i6), 2, i5⟩ : TLink)] : List TLink)).bind fun x15 =>
      impl_newView_L5 x6 i4 i5 y7 n x15 (W64 (i6 + 1))
    else
      some (x14, i6)

def impl_newView_L4 (x6 : (List Int)) (i4 : Int) (y6 : (List Int)) : Nat → (List TLink) → Int → Option ((List TLink) × Int)
  | 0, _, _ => none
  | n + 1, x13, i5 =>
    bif decide (i5 < (y6.length : Int)) then
      (idx y6 i5).bind fun y7 =>
      (impl_newView_L5 x6 i4 i5 y7 n x13 0).bind fun o => match o with
      | (x14, _) =>
        impl_newView_L4 x6 i4 y6 n x14 (W64 (i5 + 1))
    else
      some (x13, i5)

def impl_newView_L3 (a_0 : TBlock) (x5 : (List (List Int))) (x6 : (List Int)) : Nat → (List (List Int)) → (List Int) → (List TLink) → Int → Option ((List (List Int)) × (List Int) × (List TLink) × Int)
  | 0, _, _, _, _ => none
  | n + 1, x8, x9, x10, i4 =>
    bif decide (i4 < (a_0.Wires.length : Int)) then
      (impl_Block_nodeLoads n a_0 i4).bind fun r4 =>
      (idx r4 0).bind fun y5 =>
      (appS x9 ([y5] : List Int)).bind fun x11 =>
      (impl_Block_exactDelays n a_0 i4).bind fun r5 =>
      (appS x8 ([r5] : List (List Int))).bind fun x12 =>
      (idx x5 i4).bind fun y6 =>
      (impl_newView_L4 x6 i4 y6 n x10 0).bind fun o => match o with
      | (x13, _) =>
        impl_newView_L3 a_0 x5 x6 n x12 x11 x13 (W64 (i4 + 1))
    else
      some (x8, x9, x10, i4)

def impl_newView_L2 (r1 : (List Tplace)) : Nat → (List (List Int)) → (List Int) → Int → Option ((List (List Int)) × (List Int) × Int)
  | 0, _, _, _ => none
  | n + 1, x5, x6, i3 =>
    bif decide (i3 < (r1.length : Int)) then
      (idx r1 i3).bind fun y2 =>
      bif y2.drives then
        (idx x6 y2.net).bind fun _ =>
        impl_newView_L2 r1 n x5 (setS x6 y2.net i3) (W64 (i3 + 1))
      else
        (idx x5 y2.net).bind fun y4 =>
        (appS y4 ([i3] : List Int)).bind fun x7 =>
        impl_newView_L2 r1 n (setS x5 y2.net x7) x6 (W64 (i3 + 1))
    else
      some (x5, x6, i3)

def impl_newView_L1 (a_0 : TBlock) : Nat → (List TLink) → Int → Int → Option ((List TLink) × Int × Int)
  | 0, _, _, _ => none
  | n + 1, x1, i1, i2 =>
    bif decide (i2 < (a_0.Design.Instances.length : Int)) then
      (idx a_0.Design.Instances i2).bind fun y1 =>
      (impl_Block_cellLinks n a_0 y1 i1).bind fun r2 =>
      (appS x1 r2).bind fun x2 =>
      (impl_length_int64 n y1.Nets).bind fun r3 =>
      impl_newView_L1 a_0 n x2 (W64 (i1 + r3)) (W64 (i2 + 1))
    else
      some (x1, i1, i2)

def impl_newView (n : Nat) (a_0 : TBlock) : Option (Option Tview) :=
  (impl_Design_places n (⟨a_0.Design.Instances, a_0.Design.Nets, a_0.Design.Ports⟩ : TDesign)).bind fun r1 =>
  (impl_newView_L1 a_0 n ([] : List TLink) 0 0).bind fun o => match o with
  | (x1, _, _) =>
    (mkS (a_0.Wires.length : Int) (0 : Int)).bind fun x3 =>
    (mkS (a_0.Wires.length : Int) ([] : (List Int))).bind fun x4 =>
    (impl_newView_L2 r1 n x4 x3 0).bind fun o => match o with
    | (x5, x6, _) =>
      (impl_newView_L3 a_0 x5 x6 n ([] : List (List Int)) ([] : List Int) x1 0).bind fun o => match o with
      | (x8, x9, x10, _) =>
        some (some (⟨(⟨(⟨a_0.Library.Cells⟩ : TLibrary), (⟨a_0.Design.Instances, a_0.Design.Nets, a_0.Design.Ports⟩ : TDesign), a_0.Wires⟩ : TBlock), r1, x10, x9, x8, []⟩ : Tview))

theorem impl_newView_ok {n : Nat} {w : World} {A : Nat → Prop} (hA : ∀ b, A b → old w b) {a_0 : TBlock} {cs1 : List Value} (ha1 : GoT.R w A a_0 cs1) {r : (Option Tview)} (hF : impl_newView n a_0 = some r) : RetG Tryz.prog 40 [GoT.v TBlock cs1] w A r := by
  obtain ⟨p1, k1, p2, k2, p3, k3, p4, k4, p5, k5, rfl, s1, s2, s3, s4, s5⟩ := open_TBlock ha1
  have hg := Rg.start hA
  refine retG_of_run Tryz.func40 rfl (m := 156) rfl rfl (fun h => ?_)
  rw [impl_newView] at hF
  refine r_seq (r_region (r_box h rfl rfl ?_))
  intro w1 bb1 h
  refine rp rfl rfl (r_nil (r_seq ?_))
  refine r_any [] (fun w' => SH w w' [Ch.box bb1 [.slice p1 a_0.Library.Cells.length k1, .slice p2 a_0.Design.Instances.length k2, .slice p3 a_0.Design.Nets.length k3, .slice p4 a_0.Design.Ports.length k4, .slice p5 a_0.Wires.length k5] 48]) rfl 7 rfl #[ff, ff, ff, ff, ff, ff, ff] (by kernel_rfl) (fun w2 hb => ?_)
  replace h := h.ext hb
  clear hb
  refine a_take 0 rfl #[tt, ff, ff, ff, ff, ff, ff] (by kernel_rfl) (by kernel_rfl) (fun w' hw => v_ld tabOk (hw.box 0 rfl) (j := 0) rfl rfl rfl) (h.pick [0] rfl) rfl ?_
  refine a_take 1 rfl #[tt, tt, ff, ff, ff, ff, ff] (by kernel_rfl) (by kernel_rfl) (fun w' hw => v_p tabOk rfl w') (h.pick [0] rfl) rfl ?_
  refine a_take 2 rfl #[tt, tt, tt, ff, ff, ff, ff] (by kernel_rfl) (by kernel_rfl) (fun w' hw => v_ld tabOk (hw.box 0 rfl) (j := 1) rfl rfl rfl) (h.pick [0] rfl) rfl ?_
  refine a_only 3 rfl #[tt, tt, tt, tt, ff, ff, ff] (by kernel_rfl) (by kernel_rfl) ?_
  obtain ⟨r1, hr1, hF⟩ := bindS hF
  refine r_callL r1 h call76 (impl_Design_places_ok (mkR_TDesign (⟨a_0.Design.Instances, a_0.Design.Nets, a_0.Design.Ports⟩ : TDesign) (h.oldS (s2.mono hg.old)) (h.oldS (s3.mono hg.old)) (h.oldS (s4.mono hg.old))) hr1) rfl rfl rfl rfl ?_
  intro w3 S1 p6 k6 h
  refine a_goal (fun _ => (h.pick [1] rfl)) ?_
  refine a_take 4 rfl #[tt, tt, tt, tt, tt, ff, ff] (by kernel_rfl) (by kernel_rfl) (fun w' hw => v_build tabOk [0, 1] [.tmp 15, .tmp 18] rfl rfl rfl rfl rfl rfl rfl rfl) (h.pick [1] rfl) rfl ?_
  refine a_only 5 rfl #[tt, tt, tt, tt, tt, tt, ff] (by kernel_rfl) (by kernel_rfl) ?_
  refine r_box h rfl rfl ?_
  intro w4 bb2 h
  refine a_goal (fun _ => (h.pick [2] rfl)) ?_
  refine a_take 6 rfl #[tt, tt, tt, tt, tt, tt, tt] (by kernel_rfl) (by kernel_rfl) (fun w' hw => v_p tabOk rfl w') (h.pick [2] rfl) rfl ?_
  refine a_done (by kernel_rfl) ?_
  refine r_seq (r_region (rp rfl rfl (r_nil (r_seq (r_seq (r_region (rp rfl rfl (rp rfl rfl (r_v (v_ld tabOk (h.box 2 rfl) (j := 1) rfl rfl rfl) rfl (rp rfl rfl (rp rfl rfl ?_)))))))))))
  refine r_nil ?_
  replace h := h.nil (α := TLink)
  obtain ⟨o1, hF, hK1⟩ := bindS hF
  refine r_block (r_sub [(1, _), (3, _), (4, _), (23, _), (24, _), (25, _)] ⟨rfl, rfl, rfl, rfl, rfl, rfl, trivial⟩ ?_)
  refine r_loop (fun m e w' => ∃ (S2 : Nat → Prop) (p7 : Option Addr) (ln1 : Nat) (k7 : Nat) (x1 : (List TLink)) (i1 : Int) (i2 : Int), impl_newView_L1 a_0 m x1 i1 i2 = some o1 ∧ e = [(1, .pointer (some ⟨bb1, 0, none⟩)), (3, .pointer (some ⟨bb2, 0, none⟩)), (4, .int .i64 i1), (23, .slice p2 a_0.Design.Instances.length k2), (24, .int .i64 (a_0.Design.Instances.length : Int)), (25, .int .i64 i2)] ∧ SH w w' [Ch.own S2 (x1 : List TLink) [.slice p7 ln1 k7], Ch.box bb2 [.slice p1 a_0.Library.Cells.length k1, .slice p2 a_0.Design.Instances.length k2, .slice p3 a_0.Design.Nets.length k3, .slice p4 a_0.Design.Ports.length k4, .slice p5 a_0.Wires.length k5, .slice p6 r1.length k6, .slice p7 ln1 k7, .slice none 0 0, .slice none 0 0, .slice none 0 0] 94, Ch.own S1 (r1 : List Tplace) [.slice p6 r1.length k6], Ch.box bb1 [.slice p1 a_0.Library.Cells.length k1, .slice p2 a_0.Design.Instances.length k2, .slice p3 a_0.Design.Nets.length k3, .slice p4 a_0.Design.Ports.length k4, .slice p5 a_0.Wires.length k5] 48]) n ⟨_, _, _, _, _, _, _, hF, rfl, h⟩ ?_
  rintro m1 e1 w5 ⟨S2, p7, ln1, k7, x1, i1, i2, hF, rfl, h⟩
  obtain rfl := (h.sl 0 rfl).2
  rcases m1 with _ | m1
  · rw [impl_newView_L1] at hF
    cases hF
  rw [impl_newView_L1] at hF
  refine r_seq (r_region (rp rfl rfl (r_nil (r_seq ?_))))
  refine r_if rfl hF (fun hF => ?_) (fun hF => ?_)
  · refine r_skip (r_seq (r_block (r_seq (r_region ?_))))
    obtain ⟨y1, hy1, hF⟩ := bindS hF
    have he1 := idx_some hy1
    obtain ⟨b1, o_1, q1, cs2, hp1, hq1, -, hr2, hc2⟩ := s2.at hy1
    obtain ⟨p8, k8, rfl, s6⟩ := open_TInstance hr2
    refine r_v (v_ix tabOk hp1 hq1 ⟨he1.1, he1.2.1⟩ rfl rfl rfl rfl rfl rfl) rfl (r_v (v_ld tabOk (hc2.below h.below) (j := 0) rfl rfl rfl) rfl (r_alloc tabOk h rfl rfl rfl ?_))
    intro w6 bb3 h
    refine r_stbox tabOk 0 h rfl rfl rfl rfl rfl rfl rfl ?_
    intro w7 h
    replace h : SH _ _ [Ch.box bb3 [.string y1.Name, .int .i64 y1.Cell, .slice p8 y1.Nets.length k8] 126, Ch.own S2 (x1 : List TLink) [.slice p7 x1.length k7], Ch.box bb2 [.slice p1 a_0.Library.Cells.length k1, .slice p2 a_0.Design.Instances.length k2, .slice p3 a_0.Design.Nets.length k3, .slice p4 a_0.Design.Ports.length k4, .slice p5 a_0.Wires.length k5, .slice p6 r1.length k6, .slice p7 x1.length k7, .slice none 0 0, .slice none 0 0, .slice none 0 0] 94, Ch.own S1 (r1 : List Tplace) [.slice p6 r1.length k6], Ch.box bb1 [.slice p1 a_0.Library.Cells.length k1, .slice p2 a_0.Design.Instances.length k2, .slice p3 a_0.Design.Nets.length k3, .slice p4 a_0.Design.Ports.length k4, .slice p5 a_0.Wires.length k5] 48] := h
    refine r_nil (r_seq ?_)
    refine r_any [12] (fun w' => SH w w' [Ch.box bb3 [.string y1.Name, .int .i64 y1.Cell, .slice p8 y1.Nets.length k8] 126, Ch.box bb2 [.slice p1 a_0.Library.Cells.length k1, .slice p2 a_0.Design.Instances.length k2, .slice p3 a_0.Design.Nets.length k3, .slice p4 a_0.Design.Ports.length k4, .slice p5 a_0.Wires.length k5, .slice p6 r1.length k6, .slice p7 x1.length k7, .slice none 0 0, .slice none 0 0, .slice none 0 0] 94, Ch.box bb1 [.slice p1 a_0.Library.Cells.length k1, .slice p2 a_0.Design.Instances.length k2, .slice p3 a_0.Design.Nets.length k3, .slice p4 a_0.Design.Ports.length k4, .slice p5 a_0.Wires.length k5] 48]) rfl 13 rfl #[ff, ff, ff, ff, ff, ff, ff, ff, ff, ff, ff, ff, ff] (by kernel_rfl) (fun w8 hb => ?_)
    replace h := h.ext hb
    clear hb
    refine a_take 0 rfl #[tt, ff, ff, ff, ff, ff, ff, ff, ff, ff, ff, ff, ff] (by kernel_rfl) (by kernel_rfl) (fun w' hw => v_p tabOk rfl w') (h.pick [0, 2, 4] rfl) rfl ?_
    refine a_take 1 rfl #[tt, tt, ff, ff, ff, ff, ff, ff, ff, ff, ff, ff, ff] (by kernel_rfl) (by kernel_rfl) (fun w' hw => v_p tabOk rfl w') (h.pick [0, 2, 4] rfl) rfl ?_
    refine a_take 2 rfl #[tt, tt, tt, ff, ff, ff, ff, ff, ff, ff, ff, ff, ff] (by kernel_rfl) (by kernel_rfl) (fun w' hw => v_p tabOk rfl w') (h.pick [0, 2, 4] rfl) rfl ?_
    refine a_take 3 rfl #[tt, tt, tt, tt, ff, ff, ff, ff, ff, ff, ff, ff, ff] (by kernel_rfl) (by kernel_rfl) (fun w' hw => v_p tabOk rfl w') (h.pick [0, 2, 4] rfl) rfl ?_
    refine a_take 4 rfl #[tt, tt, tt, tt, tt, ff, ff, ff, ff, ff, ff, ff, ff] (by kernel_rfl) (by kernel_rfl) (fun w' hw => v_ld tabOk (hw.box 1 rfl) (j := 6) rfl rfl rfl) (h.pick [0, 2, 4] rfl) rfl ?_
    refine a_take 5 rfl #[tt, tt, tt, tt, tt, tt, ff, ff, ff, ff, ff, ff, ff] (by kernel_rfl) (by kernel_rfl) (fun w' hw => v_ld tabOk (hw.box 2 rfl) (j := 0) rfl rfl rfl) (h.pick [0, 2, 4] rfl) rfl ?_
    refine a_take 6 rfl #[tt, tt, tt, tt, tt, tt, tt, ff, ff, ff, ff, ff, ff] (by kernel_rfl) (by kernel_rfl) (fun w' hw => v_ld tabOk (hw.box 0 rfl) (j := 0) rfl rfl rfl) (h.pick [0, 2, 4] rfl) rfl ?_
    refine a_take 7 rfl #[tt, tt, tt, tt, tt, tt, tt, tt, ff, ff, ff, ff, ff] (by kernel_rfl) (by kernel_rfl) (fun w' hw => v_p tabOk rfl w') (h.pick [0, 2, 4] rfl) rfl ?_
    refine a_only 8 rfl #[tt, tt, tt, tt, tt, tt, tt, tt, tt, ff, ff, ff, ff] (by kernel_rfl) (by kernel_rfl) ?_
    obtain ⟨r2, hr3, hF⟩ := bindS hF
    refine r_callL r2 h call78 (impl_Block_cellLinks_ok (h.old (GoT.mono ha1 hg.old)) (mkR_TInstance y1 (h.oldS (s6.mono hg.old))) hr3) rfl rfl rfl rfl ?_
    intro w9 S3 p9 k9 h
    refine a_goal (fun _ => (h.pick [1, 3, 5] rfl)) ?_
    refine a_only 9 rfl #[tt, tt, tt, tt, tt, tt, tt, tt, tt, tt, ff, ff, ff] (by kernel_rfl) (by kernel_rfl) ?_
    obtain ⟨x2, hx1, hF⟩ := bindS hF
    obtain ⟨g1, hx1⟩ := appS_some hx1
    refine r_appE tabOk 2 h rfl (h.sl 0 rfl).1 (h.sl 0 rfl).2 rfl rfl rfl rfl rfl rfl rfl rfl rfl g1 hx1 rfl ?_
    intro w10 p10 k10 S4 h
    refine a_goal (fun _ => (h.pick [1, 3, 5] rfl)) ?_
    refine a_only 10 rfl #[tt, tt, tt, tt, tt, tt, tt, tt, tt, tt, tt, ff, ff] (by kernel_rfl) (by kernel_rfl) ?_
    refine rp rfl rfl ?_
    refine a_goal (fun _ => (h.pick [1, 3, 5] rfl)) ?_
    refine a_take 11 rfl #[tt, tt, tt, tt, tt, tt, tt, tt, tt, tt, tt, tt, ff] (by kernel_rfl) (by kernel_rfl) (fun w' hw => v_p tabOk rfl w') (h.pick [1, 3, 5] rfl) rfl ?_
    refine a_only 12 rfl #[tt, tt, tt, tt, tt, tt, tt, tt, tt, tt, tt, tt, tt] (by kernel_rfl) (by kernel_rfl) ?_
    refine r_stbox tabOk 3 h rfl rfl rfl rfl rfl rfl rfl ?_
    intro w11 h
    replace h : SH _ _ [Ch.own S3 (r2 : List TLink) [.slice p9 r2.length k9], Ch.box bb3 [.string y1.Name, .int .i64 y1.Cell, .slice p8 y1.Nets.length k8] 126, Ch.own S4 (x2 : List TLink) [.slice p10 x2.length k10], Ch.box bb2 [.slice p1 a_0.Library.Cells.length k1, .slice p2 a_0.Design.Instances.length k2, .slice p3 a_0.Design.Nets.length k3, .slice p4 a_0.Design.Ports.length k4, .slice p5 a_0.Wires.length k5, .slice p6 r1.length k6, .slice p10 x2.length k10, .slice none 0 0, .slice none 0 0, .slice none 0 0] 94, Ch.own S1 (r1 : List Tplace) [.slice p6 r1.length k6], Ch.box bb1 [.slice p1 a_0.Library.Cells.length k1, .slice p2 a_0.Design.Instances.length k2, .slice p3 a_0.Design.Nets.length k3, .slice p4 a_0.Design.Ports.length k4, .slice p5 a_0.Wires.length k5] 48] := h
    refine a_goal (fun hs => absurd (hs 12 (by decide)) (by decide)) ?_
    refine a_done (by kernel_rfl) ?_
    refine r_region (rp rfl rfl (rp rfl rfl (r_v (v_ld tabOk (h.box 1 rfl) (j := 2) rfl rfl rfl) rfl ?_)))
    obtain ⟨r3, hr4, hF⟩ := bindS hF
    refine r_callI r3 h call79 (impl_length_int64_ok ⟨_, _, rfl, (h.oldS (s6.mono hg.old))⟩ hr4) rfl rfl rfl rfl ?_
    intro w12 h
    refine rp rfl rfl (rp rfl rfl (r_nil (r_blk (r_region (rp rfl rfl (rp rfl rfl (r_nil ?_)))))))
    replace h := h.pick [2, 3, 4, 5] rfl
    exact r_back m1 [(1, _), (3, _), (4, _), (23, _), (24, _), (25, _)] (Nat.lt_succ_self m1) ⟨rfl, rfl, rfl, rfl, rfl, rfl, trivial⟩ ⟨_, _, _, _, _, _, _, hF, rfl, h⟩
  refine r_exit rfl ?_
  obtain rfl := someI hF; replace hF := hK1
  refine r_seq (r_region (rp rfl rfl (r_v (v_ld tabOk (h.box 3 rfl) (j := 4) rfl rfl rfl) rfl (rp rfl rfl ?_))))
  obtain ⟨x3, hx2, hF⟩ := bindS hF
  obtain ⟨g2, g3, hx2⟩ := mkS_some hx2
  refine r_makeE tabOk Int h rfl rfl rfl rfl rfl rfl rfl rfl rfl g2 g3 hx2 rfl ?_
  intro w13 S5 p11 h
  refine rp rfl rfl (r_nil (r_seq (r_region (rp rfl rfl (r_v (v_ld tabOk (h.box 4 rfl) (j := 4) rfl rfl rfl) rfl (rp rfl rfl ?_))))))
  obtain ⟨x4, hx3, hF⟩ := bindS hF
  obtain ⟨g4, g5, hx3⟩ := mkS_some hx3
  refine r_makeE tabOk (List Int) h rfl rfl rfl rfl rfl rfl rfl rfl rfl g4 g5 hx3 rfl ?_
  intro w14 S6 p12 h
  refine rp rfl rfl (r_nil (r_seq (r_seq (r_region (rp rfl rfl (rp rfl rfl (rp rfl rfl (r_v (v_ld tabOk (h.box 3 rfl) (j := 5) rfl rfl rfl) rfl (rp rfl rfl (rp rfl rfl (r_nil ?_)))))))))))
  obtain ⟨o2, hF, hK2⟩ := bindS hF
  refine r_block (r_sub [(1, _), (3, _), (7, _), (8, _), (58, _), (59, _), (60, _)] ⟨rfl, rfl, rfl, rfl, rfl, rfl, rfl, trivial⟩ ?_)
  refine r_loop (fun m e w' => ∃ (S7 : Nat → Prop) (x5 : (List (List Int))) (x6 : (List Int)) (i3 : Int), impl_newView_L2 r1 m x5 x6 i3 = some o2 ∧ e = [(1, .pointer (some ⟨bb1, 0, none⟩)), (3, .pointer (some ⟨bb2, 0, none⟩)), (7, .slice p11 x3.length x3.length), (8, .slice p12 x4.length x4.length), (58, .slice p6 r1.length k6), (59, .int .i64 (r1.length : Int)), (60, .int .i64 i3)] ∧ SH w w' [Ch.own S7 (x5 : List (List Int)) [.slice p12 x4.length x4.length], Ch.own S5 (x6 : List Int) [.slice p11 x3.length x3.length], Ch.own S2 (x1 : List TLink) [.slice p7 x1.length k7], Ch.box bb2 [.slice p1 a_0.Library.Cells.length k1, .slice p2 a_0.Design.Instances.length k2, .slice p3 a_0.Design.Nets.length k3, .slice p4 a_0.Design.Ports.length k4, .slice p5 a_0.Wires.length k5, .slice p6 r1.length k6, .slice p7 x1.length k7, .slice none 0 0, .slice none 0 0, .slice none 0 0] 94, Ch.own S1 (r1 : List Tplace) [.slice p6 r1.length k6], Ch.box bb1 [.slice p1 a_0.Library.Cells.length k1, .slice p2 a_0.Design.Instances.length k2, .slice p3 a_0.Design.Nets.length k3, .slice p4 a_0.Design.Ports.length k4, .slice p5 a_0.Wires.length k5] 48]) n ⟨_, _, _, _, hF, rfl, h⟩ ?_
  rintro m2 e2 w15 ⟨S7, x5, x6, i3, hF, rfl, h⟩
  rcases m2 with _ | m2
  · rw [impl_newView_L2] at hF
    cases hF
  rw [impl_newView_L2] at hF
  refine r_seq (r_region (rp rfl rfl (r_nil (r_seq ?_))))
  refine r_if rfl hF (fun hF => ?_) (fun hF => ?_)
  · refine r_skip (r_seq (r_block (r_seq (r_region (rp rfl rfl ?_)))))
    obtain ⟨y2, hy2, hF⟩ := bindS hF
    have he2 := idx_some hy2
    obtain ⟨b2, o_2, q2, cs3, hp2, hq2, -, hr5, hc4⟩ := (h.sl 4 rfl).1.at hy2
    obtain rfl := open_Tplace hr5
    refine r_v (v_ix tabOk hp2 hq2 ⟨he2.1, lt_ln he2.2.1 (h.sl 4 rfl).2⟩ rfl rfl rfl rfl rfl rfl) rfl (r_v (v_ld tabOk hc4 (j := 0) rfl rfl rfl) rfl (r_alloc tabOk h rfl rfl rfl ?_))
    intro w16 bb4 h
    refine rp rfl rfl (r_stbox tabOk 0 h rfl rfl rfl rfl rfl rfl rfl ?_)
    intro w17 h
    refine r_nil (r_seq (r_region (rp rfl rfl (r_v (v_ld tabOk (h.box 0 rfl) (j := 3) rfl rfl rfl) rfl (r_nil ?_)))))
    refine r_if rfl hF (fun hF => ?_) (fun hF => ?_)
    · refine r_region (rp rfl rfl (rp rfl rfl (r_v (v_ld tabOk (h.box 0 rfl) (j := 2) rfl rfl rfl) rfl (rp rfl rfl ?_))))
      obtain ⟨y3, hy3, hF⟩ := bindS hF
      have he3 := idx_some hy3
      obtain ⟨b3, o_3, q3, cs4, hp3, hq3, -, hr6, hc6⟩ := (h.sl 2 rfl).1.at hy3
      obtain rfl := hr6
      refine r_v (v_ix tabOk hp3 hq3 ⟨he3.1, lt_ln he3.2.1 (h.sl 2 rfl).2⟩ rfl rfl rfl rfl rfl rfl) rfl (r_stown tabOk 2 0 i3 h rfl hy3 hp3 hq3 rfl hc6 rfl rfl rfl rfl rfl rfl rfl ?_)
      intro w18 h
      refine r_nil (r_blk (r_region (rp rfl rfl (rp rfl rfl (r_nil ?_)))))
      replace h := h.pick [1, 2, 3, 4, 5, 6] rfl
      exact r_back m2 [(1, _), (3, _), (7, _), (8, _), (58, _), (59, _), (60, _)] (Nat.lt_succ_self m2) ⟨rfl, rfl, rfl, rfl, rfl, rfl, rfl, trivial⟩ ⟨_, _, _, _, hF, rfl, h⟩
    obtain ⟨y4, hy4, hF⟩ := bindS hF
    have he4 := idx_some hy4
    replace h := h.pick [1, 0, 2, 3, 4, 5, 6] rfl
    obtain ⟨S8, S9, cs5, h⟩ := h.take hy4
    obtain ⟨p13, k11, rfl, -⟩ := h.own 0 rfl
    refine r_any [12] (fun w' => SH w w' [Ch.hole S9 (x5 : List (List Int)) p12 x4.length x4.length (y2.net).toNat [.slice p13 y4.length k11], Ch.box bb4 [.int .i64 y2.instance_, .int .i64 y2.pin, .int .i64 y2.net, .bool y2.drives] 97]) rfl 13 rfl #[ff, ff, ff, ff, ff, ff, ff, ff, ff, ff, ff, ff, ff] (by kernel_rfl) (fun w19 hb => ?_)
    replace h := h.ext hb
    clear hb
    refine a_take 0 rfl #[tt, ff, ff, ff, ff, ff, ff, ff, ff, ff, ff, ff, ff] (by kernel_rfl) (by kernel_rfl) (fun w' hw => v_p tabOk rfl w') (h.pick [1, 2] rfl) rfl ?_
    refine a_take 1 rfl #[tt, tt, ff, ff, ff, ff, ff, ff, ff, ff, ff, ff, ff] (by kernel_rfl) (by kernel_rfl) (fun w' hw => v_p tabOk rfl w') (h.pick [1, 2] rfl) rfl ?_
    refine a_take 2 rfl #[tt, tt, tt, ff, ff, ff, ff, ff, ff, ff, ff, ff, ff] (by kernel_rfl) (by kernel_rfl) (fun w' hw => v_ld tabOk (hw.box 1 rfl) (j := 2) rfl rfl rfl) (h.pick [1, 2] rfl) rfl ?_
    refine a_take 3 rfl #[tt, tt, tt, tt, ff, ff, ff, ff, ff, ff, ff, ff, ff] (by kernel_rfl) (by kernel_rfl) (fun w' hw => v_p tabOk rfl w') (h.pick [1, 2] rfl) rfl ?_
    refine a_take 4 rfl #[tt, tt, tt, tt, tt, ff, ff, ff, ff, ff, ff, ff, ff] (by kernel_rfl) (by kernel_rfl) (fun w' hw => v_p tabOk rfl w') (h.pick [1, 2] rfl) rfl ?_
    refine a_take 5 rfl #[tt, tt, tt, tt, tt, tt, ff, ff, ff, ff, ff, ff, ff] (by kernel_rfl) (by kernel_rfl) (fun w' hw => v_ld tabOk (hw.box 1 rfl) (j := 2) rfl rfl rfl) (h.pick [1, 2] rfl) rfl ?_
    obtain ⟨b4, hp4, -, -, hl2⟩ := h.holeAt 1 rfl
    obtain ⟨q4, hq4⟩ : ∃ q, q = 0 + (y2.net).toNat * GoT.k (List Int) := ⟨_, rfl⟩
    refine a_take 6 rfl #[tt, tt, tt, tt, tt, tt, tt, ff, ff, ff, ff, ff, ff] (by kernel_rfl) (by kernel_rfl) (fun w' hw => v_ix tabOk hp4 hq4 ⟨he4.1, lt_ln he4.2.1 hl2⟩ rfl rfl rfl rfl rfl rfl) (h.pick [1, 2] rfl) rfl ?_
    refine a_take 7 rfl #[tt, tt, tt, tt, tt, tt, tt, tt, ff, ff, ff, ff, ff] (by kernel_rfl) (by kernel_rfl) (fun w' hw => v_ld tabOk (hole_cells hw 0 rfl hp4 hq4) (j := 0) rfl rfl rfl) (h.pick [1, 2] rfl) rfl ?_
    refine a_take 8 rfl #[tt, tt, tt, tt, tt, tt, tt, tt, tt, ff, ff, ff, ff] (by kernel_rfl) (by kernel_rfl) (fun w' hw => v_p tabOk rfl w') (h.pick [1, 2] rfl) rfl ?_
    refine a_only 9 rfl #[tt, tt, tt, tt, tt, tt, tt, tt, tt, tt, ff, ff, ff] (by kernel_rfl) (by kernel_rfl) ?_
    refine r_bslice tabOk [.tmp 80] _ ([i3] : List Int) h rfl rfl rfl rfl rfl rfl rfl rfl rfl ⟨rfl, trivial⟩ rfl ?_
    intro w20 p14 S10 h
    refine a_goal (fun _ => (h.pick [2, 3] rfl)) ?_
    refine a_only 10 rfl #[tt, tt, tt, tt, tt, tt, tt, tt, tt, tt, tt, ff, ff] (by kernel_rfl) (by kernel_rfl) ?_
    obtain ⟨x7, hx4, hF⟩ := bindS hF
    obtain ⟨g6, hx4⟩ := appS_some hx4
    refine r_appE tabOk 1 h rfl (h.sl 0 rfl).1 (h.sl 0 rfl).2 rfl rfl rfl rfl rfl rfl rfl rfl rfl g6 hx4 rfl ?_
    intro w21 p15 k12 S11 h
    refine a_goal (fun _ => (h.pick [2, 3] rfl)) ?_
    obtain ⟨b5, hp5, -, -, hl4⟩ := h.holeAt 2 rfl
    obtain ⟨q5, hq5⟩ : ∃ q, q = 0 + (y2.net).toNat * GoT.k (List Int) := ⟨_, rfl⟩
    refine a_take 11 rfl #[tt, tt, tt, tt, tt, tt, tt, tt, tt, tt, tt, tt, ff] (by kernel_rfl) (by kernel_rfl) (fun w' hw => v_ix tabOk hp5 hq5 ⟨he4.1, lt_ln he4.2.1 hl4⟩ rfl rfl rfl rfl rfl rfl) (h.pick [2, 3] rfl) rfl ?_
    refine a_only 12 rfl #[tt, tt, tt, tt, tt, tt, tt, tt, tt, tt, tt, tt, tt] (by kernel_rfl) (by kernel_rfl) ?_
    refine r_sthole tabOk 2 0 h rfl hp5 hq5 rfl rfl rfl rfl rfl rfl ?_
    intro w22 h
    refine a_goal (fun hs => absurd (hs 12 (by decide)) (by decide)) ?_
    refine a_done (by kernel_rfl) ?_
    refine r_blk (r_region (rp rfl rfl (rp rfl rfl (r_nil ?_))))
    replace h := h.pick [1, 2, 0, 3, 4, 5, 6, 7, 8] rfl
    replace h := h.put
    obtain ⟨S12, h⟩ := sh_any (S := _) h
    replace h := h.pick [0, 3, 4, 5, 6, 7] rfl
    exact r_back m2 [(1, _), (3, _), (7, _), (8, _), (58, _), (59, _), (60, _)] (Nat.lt_succ_self m2) ⟨rfl, rfl, rfl, rfl, rfl, rfl, rfl, trivial⟩ ⟨_, _, _, _, hF, rfl, h⟩
  refine r_exit rfl ?_
  obtain rfl := someI hF; replace hF := hK2
  refine r_seq (r_seq (r_region (rp rfl rfl (r_v (v_ld tabOk (h.box 5 rfl) (j := 4) rfl rfl rfl) rfl (rp rfl rfl (rp rfl rfl (r_nil ?_)))))))
  replace h := h.nil (α := Int)
  replace h := h.nil (α := (List Int))
  obtain ⟨o3, hF, hK3⟩ := bindS hF
  refine r_block (r_sub [(1, _), (3, _), (7, _), (8, _), (87, _), (88, _)] ⟨rfl, rfl, rfl, rfl, rfl, rfl, trivial⟩ ?_)
  refine r_loop (fun m e w' => ∃ (S13 : Nat → Prop) (p16 : Option Addr) (ln2 : Nat) (k13 : Nat) (x8 : (List (List Int))) (S14 : Nat → Prop) (p17 : Option Addr) (ln3 : Nat) (k14 : Nat) (x9 : (List Int)) (S15 : Nat → Prop) (p18 : Option Addr) (ln4 : Nat) (k15 : Nat) (x10 : (List TLink)) (i4 : Int), impl_newView_L3 a_0 x5 x6 m x8 x9 x10 i4 = some o3 ∧ e = [(1, .pointer (some ⟨bb1, 0, none⟩)), (3, .pointer (some ⟨bb2, 0, none⟩)), (7, .slice p11 x3.length x3.length), (8, .slice p12 x4.length x4.length), (87, .int .i64 (a_0.Wires.length : Int)), (88, .int .i64 i4)] ∧ SH w w' [Ch.own S13 (x8 : List (List Int)) [.slice p16 ln2 k13], Ch.own S14 (x9 : List Int) [.slice p17 ln3 k14], Ch.own S7 (x5 : List (List Int)) [.slice p12 x4.length x4.length], Ch.own S5 (x6 : List Int) [.slice p11 x3.length x3.length], Ch.own S15 (x10 : List TLink) [.slice p18 ln4 k15], Ch.box bb2 [.slice p1 a_0.Library.Cells.length k1, .slice p2 a_0.Design.Instances.length k2, .slice p3 a_0.Design.Nets.length k3, .slice p4 a_0.Design.Ports.length k4, .slice p5 a_0.Wires.length k5, .slice p6 r1.length k6, .slice p18 ln4 k15, .slice p17 ln3 k14, .slice p16 ln2 k13, .slice none 0 0] 94, Ch.own S1 (r1 : List Tplace) [.slice p6 r1.length k6], Ch.box bb1 [.slice p1 a_0.Library.Cells.length k1, .slice p2 a_0.Design.Instances.length k2, .slice p3 a_0.Design.Nets.length k3, .slice p4 a_0.Design.Ports.length k4, .slice p5 a_0.Wires.length k5] 48]) n ⟨_, _, _, _, _, _, _, _, _, _, _, _, _, _, _, _, hF, rfl, h⟩ ?_
  rintro m3 e3 w23 ⟨S13, p16, ln2, k13, x8, S14, p17, ln3, k14, x9, S15, p18, ln4, k15, x10, i4, hF, rfl, h⟩
  obtain rfl := (h.sl 0 rfl).2
  obtain rfl := (h.sl 1 rfl).2
  obtain rfl := (h.sl 4 rfl).2
  rcases m3 with _ | m3
  · rw [impl_newView_L3] at hF
    cases hF
  rw [impl_newView_L3] at hF
  refine r_seq (r_region (rp rfl rfl (r_nil (r_seq ?_))))
  refine r_if rfl hF (fun hF => ?_) (fun hF => ?_)
  · refine r_skip (r_seq (r_block (r_seq (r_region (rp rfl rfl (rp rfl rfl (r_nil (r_seq ?_))))))))
    refine r_any [14] (fun w' => SH w w' [Ch.box bb2 [.slice p1 a_0.Library.Cells.length k1, .slice p2 a_0.Design.Instances.length k2, .slice p3 a_0.Design.Nets.length k3, .slice p4 a_0.Design.Ports.length k4, .slice p5 a_0.Wires.length k5, .slice p6 r1.length k6, .slice p18 x10.length k15, .slice p17 x9.length k14, .slice p16 x8.length k13, .slice none 0 0] 94, Ch.box bb1 [.slice p1 a_0.Library.Cells.length k1, .slice p2 a_0.Design.Instances.length k2, .slice p3 a_0.Design.Nets.length k3, .slice p4 a_0.Design.Ports.length k4, .slice p5 a_0.Wires.length k5] 48]) rfl 15 rfl #[ff, ff, ff, ff, ff, ff, ff, ff, ff, ff, ff, ff, ff, ff, ff] (by kernel_rfl) (fun w24 hb => ?_)
    replace h := h.ext hb
    clear hb
    refine a_take 0 rfl #[tt, ff, ff, ff, ff, ff, ff, ff, ff, ff, ff, ff, ff, ff, ff] (by kernel_rfl) (by kernel_rfl) (fun w' hw => v_p tabOk rfl w') (h.pick [5, 7] rfl) rfl ?_
    refine a_take 1 rfl #[tt, tt, ff, ff, ff, ff, ff, ff, ff, ff, ff, ff, ff, ff, ff] (by kernel_rfl) (by kernel_rfl) (fun w' hw => v_p tabOk rfl w') (h.pick [5, 7] rfl) rfl ?_
    refine a_take 2 rfl #[tt, tt, tt, ff, ff, ff, ff, ff, ff, ff, ff, ff, ff, ff, ff] (by kernel_rfl) (by kernel_rfl) (fun w' hw => v_p tabOk rfl w') (h.pick [5, 7] rfl) rfl ?_
    refine a_take 3 rfl #[tt, tt, tt, tt, ff, ff, ff, ff, ff, ff, ff, ff, ff, ff, ff] (by kernel_rfl) (by kernel_rfl) (fun w' hw => v_p tabOk rfl w') (h.pick [5, 7] rfl) rfl ?_
    refine a_take 4 rfl #[tt, tt, tt, tt, tt, ff, ff, ff, ff, ff, ff, ff, ff, ff, ff] (by kernel_rfl) (by kernel_rfl) (fun w' hw => v_ld tabOk (hw.box 0 rfl) (j := 7) rfl rfl rfl) (h.pick [5, 7] rfl) rfl ?_
    refine a_take 5 rfl #[tt, tt, tt, tt, tt, tt, ff, ff, ff, ff, ff, ff, ff, ff, ff] (by kernel_rfl) (by kernel_rfl) (fun w' hw => v_ld tabOk (hw.box 1 rfl) (j := 0) rfl rfl rfl) (h.pick [5, 7] rfl) rfl ?_
    refine a_take 6 rfl #[tt, tt, tt, tt, tt, tt, tt, ff, ff, ff, ff, ff, ff, ff, ff] (by kernel_rfl) (by kernel_rfl) (fun w' hw => v_p tabOk rfl w') (h.pick [5, 7] rfl) rfl ?_
    refine a_only 7 rfl #[tt, tt, tt, tt, tt, tt, tt, tt, ff, ff, ff, ff, ff, ff, ff] (by kernel_rfl) (by kernel_rfl) ?_
    obtain ⟨r4, hr7, hF⟩ := bindS hF
    refine r_callL r4 h call80 (impl_Block_nodeLoads_ok (h.old (GoT.mono ha1 hg.old)) hr7) rfl rfl rfl rfl ?_
    intro w25 S16 p19 k16 h
    refine a_goal (fun _ => (h.pick [6, 8] rfl)) ?_
    obtain ⟨y5, hy5, hF⟩ := bindS hF
    have he5 := idx_some hy5
    obtain ⟨b6, o_4, q6, cs6, hp6, hq6, -, hr8, hc8⟩ := (h.sl 0 rfl).1.at hy5
    obtain rfl := hr8
    refine a_take 8 rfl #[tt, tt, tt, tt, tt, tt, tt, tt, tt, ff, ff, ff, ff, ff, ff] (by kernel_rfl) (by kernel_rfl) (fun w' hw => v_ix tabOk hp6 hq6 ⟨he5.1, lt_ln he5.2.1 (h.sl 0 rfl).2⟩ rfl rfl rfl rfl rfl rfl) (h.pick [6, 8] rfl) rfl ?_
    refine a_only 9 rfl #[tt, tt, tt, tt, tt, tt, tt, tt, tt, tt, ff, ff, ff, ff, ff] (by kernel_rfl) (by kernel_rfl) ?_
    refine r_v (v_ld tabOk hc8 (j := 0) rfl rfl rfl) rfl ?_
    refine a_goal (fun _ => (h.pick [6, 8] rfl)) ?_
    refine a_only 10 rfl #[tt, tt, tt, tt, tt, tt, tt, tt, tt, tt, tt, ff, ff, ff, ff] (by kernel_rfl) (by kernel_rfl) ?_
    refine r_bslice tabOk [.tmp 100] _ ([y5] : List Int) h rfl rfl rfl rfl rfl rfl rfl rfl rfl ⟨rfl, trivial⟩ rfl ?_
    intro w26 p20 S17 h
    refine a_goal (fun _ => (h.pick [7, 9] rfl)) ?_
    refine a_only 11 rfl #[tt, tt, tt, tt, tt, tt, tt, tt, tt, tt, tt, tt, ff, ff, ff] (by kernel_rfl) (by kernel_rfl) ?_
    obtain ⟨x11, hx5, hF⟩ := bindS hF
    obtain ⟨g7, hx5⟩ := appS_some hx5
    refine r_appE tabOk 3 h rfl (h.sl 0 rfl).1 (h.sl 0 rfl).2 rfl rfl rfl rfl rfl rfl rfl rfl rfl g7 hx5 rfl ?_
    intro w27 p21 k17 S18 h
    refine a_goal (fun _ => (h.pick [7, 9] rfl)) ?_
    refine a_only 12 rfl #[tt, tt, tt, tt, tt, tt, tt, tt, tt, tt, tt, tt, tt, ff, ff] (by kernel_rfl) (by kernel_rfl) ?_
    refine rp rfl rfl ?_
    refine a_goal (fun _ => (h.pick [7, 9] rfl)) ?_
    refine a_take 13 rfl #[tt, tt, tt, tt, tt, tt, tt, tt, tt, tt, tt, tt, tt, tt, ff] (by kernel_rfl) (by kernel_rfl) (fun w' hw => v_p tabOk rfl w') (h.pick [7, 9] rfl) rfl ?_
    refine a_only 14 rfl #[tt, tt, tt, tt, tt, tt, tt, tt, tt, tt, tt, tt, tt, tt, tt] (by kernel_rfl) (by kernel_rfl) ?_
    refine r_stbox tabOk 7 h rfl rfl rfl rfl rfl rfl rfl ?_
    intro w28 h
    refine a_goal (fun hs => absurd (hs 14 (by decide)) (by decide)) ?_
    refine a_done (by kernel_rfl) ?_
    refine r_seq ?_
    refine r_any [12] (fun w' => SH w w' [Ch.box bb2 [.slice p1 a_0.Library.Cells.length k1, .slice p2 a_0.Design.Instances.length k2, .slice p3 a_0.Design.Nets.length k3, .slice p4 a_0.Design.Ports.length k4, .slice p5 a_0.Wires.length k5, .slice p6 r1.length k6, .slice p18 x10.length k15, .slice p21 x11.length k17, .slice p16 x8.length k13, .slice none 0 0] 94, Ch.box bb1 [.slice p1 a_0.Library.Cells.length k1, .slice p2 a_0.Design.Instances.length k2, .slice p3 a_0.Design.Nets.length k3, .slice p4 a_0.Design.Ports.length k4, .slice p5 a_0.Wires.length k5] 48]) rfl 13 rfl #[ff, ff, ff, ff, ff, ff, ff, ff, ff, ff, ff, ff, ff] (by kernel_rfl) (fun w29 hb => ?_)
    replace h := h.ext hb
    clear hb
    refine a_take 0 rfl #[tt, ff, ff, ff, ff, ff, ff, ff, ff, ff, ff, ff, ff] (by kernel_rfl) (by kernel_rfl) (fun w' hw => v_p tabOk rfl w') (h.pick [7, 9] rfl) rfl ?_
    refine a_take 1 rfl #[tt, tt, ff, ff, ff, ff, ff, ff, ff, ff, ff, ff, ff] (by kernel_rfl) (by kernel_rfl) (fun w' hw => v_p tabOk rfl w') (h.pick [7, 9] rfl) rfl ?_
    refine a_take 2 rfl #[tt, tt, tt, ff, ff, ff, ff, ff, ff, ff, ff, ff, ff] (by kernel_rfl) (by kernel_rfl) (fun w' hw => v_p tabOk rfl w') (h.pick [7, 9] rfl) rfl ?_
    refine a_take 3 rfl #[tt, tt, tt, tt, ff, ff, ff, ff, ff, ff, ff, ff, ff] (by kernel_rfl) (by kernel_rfl) (fun w' hw => v_p tabOk rfl w') (h.pick [7, 9] rfl) rfl ?_
    refine a_take 4 rfl #[tt, tt, tt, tt, tt, ff, ff, ff, ff, ff, ff, ff, ff] (by kernel_rfl) (by kernel_rfl) (fun w' hw => v_ld tabOk (hw.box 0 rfl) (j := 8) rfl rfl rfl) (h.pick [7, 9] rfl) rfl ?_
    refine a_take 5 rfl #[tt, tt, tt, tt, tt, tt, ff, ff, ff, ff, ff, ff, ff] (by kernel_rfl) (by kernel_rfl) (fun w' hw => v_ld tabOk (hw.box 1 rfl) (j := 0) rfl rfl rfl) (h.pick [7, 9] rfl) rfl ?_
    refine a_take 6 rfl #[tt, tt, tt, tt, tt, tt, tt, ff, ff, ff, ff, ff, ff] (by kernel_rfl) (by kernel_rfl) (fun w' hw => v_p tabOk rfl w') (h.pick [7, 9] rfl) rfl ?_
    refine a_only 7 rfl #[tt, tt, tt, tt, tt, tt, tt, tt, ff, ff, ff, ff, ff] (by kernel_rfl) (by kernel_rfl) ?_
    obtain ⟨r5, hr9, hF⟩ := bindS hF
    refine r_callL r5 h call81 (impl_Block_exactDelays_ok (h.old (GoT.mono ha1 hg.old)) hr9) rfl rfl rfl rfl ?_
    intro w30 S19 p22 k18 h
    refine a_goal (fun _ => (h.pick [8, 10] rfl)) ?_
    refine a_only 8 rfl #[tt, tt, tt, tt, tt, tt, tt, tt, tt, ff, ff, ff, ff] (by kernel_rfl) (by kernel_rfl) ?_
    refine r_bsliceN tabOk [.tmp 112] _ ([r5] : List (List Int)) [1, 2, 3, 4, 5, 6, 7, 8, 9, 10] h rfl rfl rfl rfl rfl rfl rfl rfl rfl (pos_cons (po_own 0 h rfl) pos_nil rfl) rfl rfl ?_
    intro w31 p23 S20 h
    refine a_goal (fun _ => (h.pick [8, 10] rfl)) ?_
    refine a_only 9 rfl #[tt, tt, tt, tt, tt, tt, tt, tt, tt, tt, ff, ff, ff] (by kernel_rfl) (by kernel_rfl) ?_
    obtain ⟨x12, hx6, hF⟩ := bindS hF
    obtain ⟨g8, hx6⟩ := appS_some hx6
    replace h := h.pick [0, 3, 1, 2, 4, 5, 6, 7, 8, 9, 10] rfl
    refine r_appNE tabOk h rfl rfl rfl rfl rfl rfl rfl rfl rfl g8 hx6 rfl ?_
    intro w32 p24 k19 S21 h
    refine a_goal (fun _ => (h.pick [7, 9] rfl)) ?_
    refine a_only 10 rfl #[tt, tt, tt, tt, tt, tt, tt, tt, tt, tt, tt, ff, ff] (by kernel_rfl) (by kernel_rfl) ?_
    refine rp rfl rfl ?_
    refine a_goal (fun _ => (h.pick [7, 9] rfl)) ?_
    refine a_take 11 rfl #[tt, tt, tt, tt, tt, tt, tt, tt, tt, tt, tt, tt, ff] (by kernel_rfl) (by kernel_rfl) (fun w' hw => v_p tabOk rfl w') (h.pick [7, 9] rfl) rfl ?_
    refine a_only 12 rfl #[tt, tt, tt, tt, tt, tt, tt, tt, tt, tt, tt, tt, tt] (by kernel_rfl) (by kernel_rfl) ?_
    refine r_stbox tabOk 7 h rfl rfl rfl rfl rfl rfl rfl ?_
    intro w33 h
    refine a_goal (fun hs => absurd (hs 12 (by decide)) (by decide)) ?_
    refine a_done (by kernel_rfl) ?_
    refine r_seq (r_region (rp rfl rfl (rp rfl rfl ?_)))
    obtain ⟨y6, hy6, hF⟩ := bindS hF
    have he6 := idx_some hy6
    replace h := h.lrn0 4 rfl
    obtain ⟨b7, o_5, q7, cs7, hp7, hq7, -, hr10, hc9⟩ := (sl_of (h.lrnO 4 rfl)).1.at hy6
    have hr11 := hr10
    obtain ⟨p25, k20, rfl, s7⟩ := hr10
    replace h := h.lrnAdd 4 rfl hr11
    refine r_v (v_ix tabOk hp7 hq7 ⟨he6.1, lt_ln he6.2.1 (sl_of (h.lrnO 4 rfl)).2⟩ rfl rfl rfl rfl rfl rfl) rfl (r_v (v_ld tabOk hc9 (j := 0) rfl rfl rfl) rfl (rp rfl rfl (rp rfl rfl (r_nil ?_))))
    obtain ⟨o4, hF, hK4⟩ := bindS hF
    refine r_block ?_
    replace h := h.pick [0, 3, 4, 5, 6, 7, 8, 9] rfl
    refine r_sub [(1, _), (3, _), (7, _), (8, _), (11, _), (87, _), (88, _), (120, _), (121, _), (122, _)] ⟨rfl, rfl, rfl, rfl, rfl, rfl, rfl, rfl, rfl, rfl, trivial⟩ ?_
    refine r_loop (fun m e w' => ∃ (S22 : Nat → Prop) (p26 : Option Addr) (ln5 : Nat) (k21 : Nat) (x13 : (List TLink)) (i5 : Int), impl_newView_L4 x6 i4 y6 m x13 i5 = some o4 ∧ e = [(1, .pointer (some ⟨bb1, 0, none⟩)), (3, .pointer (some ⟨bb2, 0, none⟩)), (7, .slice p11 x3.length x3.length), (8, .slice p12 x4.length x4.length), (11, .int .i64 i4), (87, .int .i64 (a_0.Wires.length : Int)), (88, .int .i64 i4), (120, .slice p25 y6.length k20), (121, .int .i64 (y6.length : Int)), (122, .int .i64 i5)] ∧ SH w w' [Ch.own S21 (x12 : List (List Int)) [.slice p24 x12.length k19], Ch.own S18 (x11 : List Int) [.slice p21 x11.length k17], Ch.lrn S7 (x5 : List (List Int)) [.slice p12 x4.length x4.length] [fct (y6 : (List Int)) [.slice p25 y6.length k20]], Ch.own S5 (x6 : List Int) [.slice p11 x3.length x3.length], Ch.own S22 (x13 : List TLink) [.slice p26 ln5 k21], Ch.box bb2 [.slice p1 a_0.Library.Cells.length k1, .slice p2 a_0.Design.Instances.length k2, .slice p3 a_0.Design.Nets.length k3, .slice p4 a_0.Design.Ports.length k4, .slice p5 a_0.Wires.length k5, .slice p6 r1.length k6, .slice p26 ln5 k21, .slice p21 x11.length k17, .slice p24 x12.length k19, .slice none 0 0] 94, Ch.own S1 (r1 : List Tplace) [.slice p6 r1.length k6], Ch.box bb1 [.slice p1 a_0.Library.Cells.length k1, .slice p2 a_0.Design.Instances.length k2, .slice p3 a_0.Design.Nets.length k3, .slice p4 a_0.Design.Ports.length k4, .slice p5 a_0.Wires.length k5] 48]) m3 ⟨_, _, _, _, _, _, hF, rfl, h⟩ ?_
    rintro m4 e4 w34 ⟨S22, p26, ln5, k21, x13, i5, hF, rfl, h⟩
    obtain rfl := (h.sl 4 rfl).2
    rcases m4 with _ | m4
    · rw [impl_newView_L4] at hF
      cases hF
    rw [impl_newView_L4] at hF
    refine r_seq (r_region (rp rfl rfl (r_nil (r_seq ?_))))
    refine r_if rfl hF (fun hF => ?_) (fun hF => ?_)
    · refine r_skip (r_seq (r_block (r_seq (r_region (rp rfl rfl ?_)))))
      obtain ⟨y7, hy7, hF⟩ := bindS hF
      have he7 := idx_some hy7
      obtain ⟨b8, o_6, q8, cs8, hp8, hq8, -, hr12, hc11⟩ := (sl_of (GoT.mono (h.lrnS 2 0 rfl rfl) (h.lrnB 2 rfl))).1.at hy7
      obtain rfl := hr12
      refine r_v (v_ix tabOk hp8 hq8 ⟨he7.1, lt_ln he7.2.1 (sl_of (GoT.mono (h.lrnS 2 0 rfl rfl) (h.lrnB 2 rfl))).2⟩ rfl rfl rfl rfl rfl rfl) rfl (r_v (v_ld tabOk hc11 (j := 0) rfl rfl rfl) rfl (rp rfl rfl (rp rfl rfl (r_nil (r_seq (r_region (rp rfl rfl (r_nil ?_))))))))
      obtain ⟨o5, hF, hK5⟩ := bindS hF
      refine r_block (r_sub [(1, _), (3, _), (7, _), (8, _), (11, _), (12, _), (13, _), (87, _), (88, _), (120, _), (121, _), (122, _), (127, _)] ⟨rfl, rfl, rfl, rfl, rfl, rfl, rfl, rfl, rfl, rfl, rfl, rfl, rfl, trivial⟩ ?_)
      refine r_loop (fun m e w' => ∃ (S23 : Nat → Prop) (p27 : Option Addr) (ln6 : Nat) (k22 : Nat) (x14 : (List TLink)) (i6 : Int), impl_newView_L5 x6 i4 i5 y7 m x14 i6 = some o5 ∧ e = [(1, .pointer (some ⟨bb1, 0, none⟩)), (3, .pointer (some ⟨bb2, 0, none⟩)), (7, .slice p11 x3.length x3.length), (8, .slice p12 x4.length x4.length), (11, .int .i64 i4), (12, .int .i64 i5), (13, .int .i64 y7), (87, .int .i64 (a_0.Wires.length : Int)), (88, .int .i64 i4), (120, .slice p25 y6.length k20), (121, .int .i64 (y6.length : Int)), (122, .int .i64 i5), (127, .int .i64 i6)] ∧ SH w w' [Ch.own S21 (x12 : List (List Int)) [.slice p24 x12.length k19], Ch.own S18 (x11 : List Int) [.slice p21 x11.length k17], Ch.lrn S7 (x5 : List (List Int)) [.slice p12 x4.length x4.length] [fct (y6 : (List Int)) [.slice p25 y6.length k20]], Ch.own S5 (x6 : List Int) [.slice p11 x3.length x3.length], Ch.own S23 (x14 : List TLink) [.slice p27 ln6 k22], Ch.box bb2 [.slice p1 a_0.Library.Cells.length k1, .slice p2 a_0.Design.Instances.length k2, .slice p3 a_0.Design.Nets.length k3, .slice p4 a_0.Design.Ports.length k4, .slice p5 a_0.Wires.length k5, .slice p6 r1.length k6, .slice p27 ln6 k22, .slice p21 x11.length k17, .slice p24 x12.length k19, .slice none 0 0] 94, Ch.own S1 (r1 : List Tplace) [.slice p6 r1.length k6], Ch.box bb1 [.slice p1 a_0.Library.Cells.length k1, .slice p2 a_0.Design.Instances.length k2, .slice p3 a_0.Design.Nets.length k3, .slice p4 a_0.Design.Ports.length k4, .slice p5 a_0.Wires.length k5] 48]) m4 ⟨_, _, _, _, _, _, hF, rfl, h⟩ ?_
      rintro m5 e5 w35 ⟨S23, p27, ln6, k22, x14, i6, hF, rfl, h⟩
      obtain rfl := (h.sl 4 rfl).2
      rcases m5 with _ | m5
      · rw [impl_newView_L5] at hF
        cases hF
      rw [impl_newView_L5] at hF
      refine r_seq (r_region (rp rfl rfl (r_nil (r_seq ?_))))
      refine r_if rfl hF (fun hF => ?_) (fun hF => ?_)
      · refine r_skip (r_seq (r_block (r_seq (r_region (rp rfl rfl (rp rfl rfl (r_nil ?_)))))))
        refine r_any [22] (fun w' => SH w w' [Ch.own S5 (x6 : List Int) [.slice p11 x3.length x3.length], Ch.box bb2 [.slice p1 a_0.Library.Cells.length k1, .slice p2 a_0.Design.Instances.length k2, .slice p3 a_0.Design.Nets.length k3, .slice p4 a_0.Design.Ports.length k4, .slice p5 a_0.Wires.length k5, .slice p6 r1.length k6, .slice p27 x14.length k22, .slice p21 x11.length k17, .slice p24 x12.length k19, .slice none 0 0] 94]) rfl 23 rfl #[ff, ff, ff, ff, ff, ff, ff, ff, ff, ff, ff, ff, ff, ff, ff, ff, ff, ff, ff, ff, ff, ff, ff] (by kernel_rfl) (fun w36 hb => ?_)
        replace h := h.ext hb
        clear hb
        refine a_take 0 rfl #[tt, ff, ff, ff, ff, ff, ff, ff, ff, ff, ff, ff, ff, ff, ff, ff, ff, ff, ff, ff, ff, ff, ff] (by kernel_rfl) (by kernel_rfl) (fun w' hw => v_p tabOk rfl w') (h.pick [3, 5] rfl) rfl ?_
        refine a_take 1 rfl #[tt, tt, ff, ff, ff, ff, ff, ff, ff, ff, ff, ff, ff, ff, ff, ff, ff, ff, ff, ff, ff, ff, ff] (by kernel_rfl) (by kernel_rfl) (fun w' hw => v_p tabOk rfl w') (h.pick [3, 5] rfl) rfl ?_
        refine a_take 2 rfl #[tt, tt, tt, ff, ff, ff, ff, ff, ff, ff, ff, ff, ff, ff, ff, ff, ff, ff, ff, ff, ff, ff, ff] (by kernel_rfl) (by kernel_rfl) (fun w' hw => v_p tabOk rfl w') (h.pick [3, 5] rfl) rfl ?_
        refine a_take 3 rfl #[tt, tt, tt, tt, ff, ff, ff, ff, ff, ff, ff, ff, ff, ff, ff, ff, ff, ff, ff, ff, ff, ff, ff] (by kernel_rfl) (by kernel_rfl) (fun w' hw => v_p tabOk rfl w') (h.pick [3, 5] rfl) rfl ?_
        refine a_take 4 rfl #[tt, tt, tt, tt, tt, ff, ff, ff, ff, ff, ff, ff, ff, ff, ff, ff, ff, ff, ff, ff, ff, ff, ff] (by kernel_rfl) (by kernel_rfl) (fun w' hw => v_ld tabOk (hw.box 1 rfl) (j := 6) rfl rfl rfl) (h.pick [3, 5] rfl) rfl ?_
        refine a_take 5 rfl #[tt, tt, tt, tt, tt, tt, ff, ff, ff, ff, ff, ff, ff, ff, ff, ff, ff, ff, ff, ff, ff, ff, ff] (by kernel_rfl) (by kernel_rfl) (fun w' hw => v_p tabOk rfl w') (h.pick [3, 5] rfl) rfl ?_
        refine a_take 6 rfl #[tt, tt, tt, tt, tt, tt, tt, ff, ff, ff, ff, ff, ff, ff, ff, ff, ff, ff, ff, ff, ff, ff, ff] (by kernel_rfl) (by kernel_rfl) (fun w' hw => v_p tabOk rfl w') (h.pick [3, 5] rfl) rfl ?_
        obtain ⟨y8, hy8, hF⟩ := bindS hF
        have he8 := idx_some hy8
        obtain ⟨b9, o_7, q9, cs9, hp9, hq9, -, hr13, hc13⟩ := (h.sl 3 rfl).1.at hy8
        obtain rfl := hr13
        refine a_take 7 rfl #[tt, tt, tt, tt, tt, tt, tt, tt, ff, ff, ff, ff, ff, ff, ff, ff, ff, ff, ff, ff, ff, ff, ff] (by kernel_rfl) (by kernel_rfl) (fun w' hw => v_ix tabOk hp9 hq9 ⟨he8.1, lt_ln he8.2.1 (h.sl 3 rfl).2⟩ rfl rfl rfl rfl rfl rfl) (h.pick [3, 5] rfl) rfl ?_
        refine a_take 8 rfl #[tt, tt, tt, tt, tt, tt, tt, tt, tt, ff, ff, ff, ff, ff, ff, ff, ff, ff, ff, ff, ff, ff, ff] (by kernel_rfl) (by kernel_rfl) (fun w' hw => v_ld tabOk (own_cells (w1 := w) (S1 := fun _ => False) hw 0 rfl hy8 hp9 hq9 rfl) (j := 0) rfl rfl rfl) (h.pick [3, 5] rfl) rfl ?_
        refine a_take 9 rfl #[tt, tt, tt, tt, tt, tt, tt, tt, tt, tt, ff, ff, ff, ff, ff, ff, ff, ff, ff, ff, ff, ff, ff] (by kernel_rfl) (by kernel_rfl) (fun w' hw => v_p tabOk rfl w') (h.pick [3, 5] rfl) rfl ?_
        refine a_take 10 rfl #[tt, tt, tt, tt, tt, tt, tt, tt, tt, tt, tt, ff, ff, ff, ff, ff, ff, ff, ff, ff, ff, ff, ff] (by kernel_rfl) (by kernel_rfl) (fun w' hw => v_p tabOk rfl w') (h.pick [3, 5] rfl) rfl ?_
        refine a_take 11 rfl #[tt, tt, tt, tt, tt, tt, tt, tt, tt, tt, tt, tt, ff, ff, ff, ff, ff, ff, ff, ff, ff, ff, ff] (by kernel_rfl) (by kernel_rfl) (fun w' hw => v_p tabOk rfl w') (h.pick [3, 5] rfl) rfl ?_
        refine a_take 12 rfl #[tt, tt, tt, tt, tt, tt, tt, tt, tt, tt, tt, tt, tt, ff, ff, ff, ff, ff, ff, ff, ff, ff, ff] (by kernel_rfl) (by kernel_rfl) (fun w' hw => v_p tabOk rfl w') (h.pick [3, 5] rfl) rfl ?_
        refine a_take 13 rfl #[tt, tt, tt, tt, tt, tt, tt, tt, tt, tt, tt, tt, tt, tt, ff, ff, ff, ff, ff, ff, ff, ff, ff] (by kernel_rfl) (by kernel_rfl) (fun w' hw => v_p tabOk rfl w') (h.pick [3, 5] rfl) rfl ?_
        refine a_take 14 rfl #[tt, tt, tt, tt, tt, tt, tt, tt, tt, tt, tt, tt, tt, tt, tt, ff, ff, ff, ff, ff, ff, ff, ff] (by kernel_rfl) (by kernel_rfl) (fun w' hw => v_p tabOk rfl w') (h.pick [3, 5] rfl) rfl ?_
        refine a_take 15 rfl #[tt, tt, tt, tt, tt, tt, tt, tt, tt, tt, tt, tt, tt, tt, tt, tt, ff, ff, ff, ff, ff, ff, ff] (by kernel_rfl) (by kernel_rfl) (fun w' hw => v_p tabOk rfl w') (h.pick [3, 5] rfl) rfl ?_
        refine a_take 16 rfl #[tt, tt, tt, tt, tt, tt, tt, tt, tt, tt, tt, tt, tt, tt, tt, tt, tt, ff, ff, ff, ff, ff, ff] (by kernel_rfl) (by kernel_rfl) (fun w' hw => v_p tabOk rfl w') (h.pick [3, 5] rfl) rfl ?_
        refine a_take 17 rfl #[tt, tt, tt, tt, tt, tt, tt, tt, tt, tt, tt, tt, tt, tt, tt, tt, tt, tt, ff, ff, ff, ff, ff] (by kernel_rfl) (by kernel_rfl) (fun w' hw => v_build tabOk [0, 1, 2, 3] [.tmp 141, .tmp 145, .const (.int .i64 (2)), .tmp 146] rfl rfl rfl rfl rfl rfl rfl rfl) (h.pick [3, 5] rfl) rfl ?_
        refine a_only 18 rfl #[tt, tt, tt, tt, tt, tt, tt, tt, tt, tt, tt, tt, tt, tt, tt, tt, tt, tt, tt, ff, ff, ff, ff] (by kernel_rfl) (by kernel_rfl) ?_
        refine r_bslice tabOk [.tmp 147] _ ([(⟨W64 ((W64 (2 * y8)) + i6), W64 ((W64 (2 * y7)) + i6), 2, i5⟩ : TLink)] : List TLink) h rfl rfl rfl rfl rfl rfl rfl rfl rfl ⟨(mkR_TLink (⟨W64 ((W64 (2 * y8)) + i6), W64 ((W64 (2 * y7)) + i6), 2, i5⟩ : TLink)), trivial⟩ rfl ?_
        intro w37 p28 S24 h
        refine a_goal (fun _ => (h.pick [4, 6] rfl)) ?_
        refine a_only 19 rfl #[tt, tt, tt, tt, tt, tt, tt, tt, tt, tt, tt, tt, tt, tt, tt, tt, tt, tt, tt, tt, ff, ff, ff] (by kernel_rfl) (by kernel_rfl) ?_
        obtain ⟨x15, hx7, hF⟩ := bindS hF
        obtain ⟨g9, hx7⟩ := appS_some hx7
        refine r_appE tabOk 5 h rfl (h.sl 0 rfl).1 (h.sl 0 rfl).2 rfl rfl rfl rfl rfl rfl rfl rfl rfl g9 hx7 rfl ?_
        intro w38 p29 k23 S25 h
        refine a_goal (fun _ => (h.pick [4, 6] rfl)) ?_
        refine a_only 20 rfl #[tt, tt, tt, tt, tt, tt, tt, tt, tt, tt, tt, tt, tt, tt, tt, tt, tt, tt, tt, tt, tt, ff, ff] (by kernel_rfl) (by kernel_rfl) ?_
        refine rp rfl rfl ?_
        refine a_goal (fun _ => (h.pick [4, 6] rfl)) ?_
        refine a_take 21 rfl #[tt, tt, tt, tt, tt, tt, tt, tt, tt, tt, tt, tt, tt, tt, tt, tt, tt, tt, tt, tt, tt, tt, ff] (by kernel_rfl) (by kernel_rfl) (fun w' hw => v_p tabOk rfl w') (h.pick [4, 6] rfl) rfl ?_
        refine a_only 22 rfl #[tt, tt, tt, tt, tt, tt, tt, tt, tt, tt, tt, tt, tt, tt, tt, tt, tt, tt, tt, tt, tt, tt, tt] (by kernel_rfl) (by kernel_rfl) ?_
        refine r_stbox tabOk 6 h rfl rfl rfl rfl rfl rfl rfl ?_
        intro w39 h
        refine a_goal (fun hs => absurd (hs 22 (by decide)) (by decide)) ?_
        refine a_done (by kernel_rfl) ?_
        refine r_blk (r_region (rp rfl rfl (rp rfl rfl (r_nil ?_))))
        replace h := h.pick [1, 2, 3, 4, 5, 6, 7, 8] rfl
        exact r_back m5 [(1, _), (3, _), (7, _), (8, _), (11, _), (12, _), (13, _), (87, _), (88, _), (120, _), (121, _), (122, _), (127, _)] (Nat.lt_succ_self m5) ⟨rfl, rfl, rfl, rfl, rfl, rfl, rfl, rfl, rfl, rfl, rfl, rfl, rfl, trivial⟩ ⟨_, _, _, _, _, _, hF, rfl, h⟩
      refine r_exit rfl ?_
      obtain rfl := someI hF; replace hF := hK5
      exact r_blk (r_region (rp rfl rfl (rp rfl rfl (r_nil (r_back m4 [(1, _), (3, _), (7, _), (8, _), (11, _), (87, _), (88, _), (120, _), (121, _), (122, _)] (Nat.lt_succ_self m4) ⟨rfl, rfl, rfl, rfl, rfl, rfl, rfl, rfl, rfl, rfl, trivial⟩ ⟨_, _, _, _, _, _, hF, rfl, h⟩)))))
    refine r_exit rfl ?_
    obtain rfl := someI hF; replace hF := hK4
    refine r_blk (r_region (rp rfl rfl (rp rfl rfl (r_nil ?_))))
    replace h := h.unlrn 2 rfl
    exact r_back m3 [(1, _), (3, _), (7, _), (8, _), (87, _), (88, _)] (Nat.lt_succ_self m3) ⟨rfl, rfl, rfl, rfl, rfl, rfl, trivial⟩ ⟨_, _, _, _, _, _, _, _, _, _, _, _, _, _, _, _, hF, rfl, h⟩
  refine r_exit rfl ?_
  obtain rfl := someI hF; replace hF := hK3
  refine r_seq (r_region (rp rfl rfl (rp rfl rfl (r_nil ?_))))
  obtain rfl := someI hF
  have hv1 : GoRs.Rs _ (reg A w _) (some (⟨(⟨(⟨a_0.Library.Cells⟩ : TLibrary), (⟨a_0.Design.Instances, a_0.Design.Nets, a_0.Design.Ports⟩ : TDesign), a_0.Wires⟩ : TBlock), r1, x10, x9, x8, []⟩ : Tview)) [GoT.v (Option Tview) [.pointer (some ⟨bb2, 0, none⟩)]] := ⟨_, rfl, (hg.outR h (Rg.boxR (x := (⟨(⟨(⟨a_0.Library.Cells⟩ : TLibrary), (⟨a_0.Design.Instances, a_0.Design.Nets, a_0.Design.Ports⟩ : TDesign), a_0.Wires⟩ : TBlock), r1, x10, x9, x8, []⟩ : Tview)) 5 h rfl (⟨[.slice p1 a_0.Library.Cells.length k1, .slice p2 a_0.Design.Instances.length k2, .slice p3 a_0.Design.Nets.length k3, .slice p4 a_0.Design.Ports.length k4, .slice p5 a_0.Wires.length k5], [.slice p6 r1.length k6, .slice p18 x10.length k15, .slice p17 x9.length k14, .slice p16 x8.length k13, .slice none 0 0], rfl, ⟨[.slice p1 a_0.Library.Cells.length k1], [.slice p2 a_0.Design.Instances.length k2, .slice p3 a_0.Design.Nets.length k3, .slice p4 a_0.Design.Ports.length k4, .slice p5 a_0.Wires.length k5], rfl, ⟨_, _, rfl, (hg.inS h s1)⟩, ⟨[.slice p2 a_0.Design.Instances.length k2, .slice p3 a_0.Design.Nets.length k3, .slice p4 a_0.Design.Ports.length k4], [.slice p5 a_0.Wires.length k5], rfl, ⟨[.slice p2 a_0.Design.Instances.length k2], [.slice p3 a_0.Design.Nets.length k3, .slice p4 a_0.Design.Ports.length k4], rfl, ⟨_, _, rfl, (hg.inS h s2)⟩, ⟨[.slice p3 a_0.Design.Nets.length k3], [.slice p4 a_0.Design.Ports.length k4], rfl, ⟨_, _, rfl, (hg.inS h s3)⟩, ⟨_, _, rfl, (hg.inS h s4)⟩⟩⟩, ⟨_, _, rfl, (hg.inS h s5)⟩⟩⟩, ⟨[.slice p6 r1.length k6], [.slice p18 x10.length k15, .slice p17 x9.length k14, .slice p16 x8.length k13, .slice none 0 0], rfl, (Rg.ownR 6 h rfl), ⟨[.slice p18 x10.length k15], [.slice p17 x9.length k14, .slice p16 x8.length k13, .slice none 0 0], rfl, (Rg.ownR 4 h rfl), ⟨[.slice p17 x9.length k14], [.slice p16 x8.length k13, .slice none 0 0], rfl, (Rg.ownR 1 h rfl), ⟨[.slice p16 x8.length k13], [.slice none 0 0], rfl, (Rg.ownR 0 h rfl), ⟨_, _, rfl, slr_nil⟩⟩⟩⟩⟩⟩)))⟩
  exact r_retG tabOk (ρ := (Option Tview)) (r := (some (⟨(⟨(⟨a_0.Library.Cells⟩ : TLibrary), (⟨a_0.Design.Instances, a_0.Design.Nets, a_0.Design.Ports⟩ : TDesign), a_0.Wires⟩ : TBlock), r1, x10, x9, x8, []⟩ : Tview))) [GoT.v (Option Tview) [.pointer (some ⟨bb2, 0, none⟩)]] h ⟨rfl, trivial⟩ hv1

end Go.Fw


namespace Go.Fw
open Go Go.Proofs
open Go.RowKit (Below)
set_option maxRecDepth 100000
end Go.Fw


namespace Go.Fw
open Go
set_option maxRecDepth 100000

theorem sinksL_at {d : TDesign} {k : Int} {n i : Nat} (hi : i < (sinksL d k n).length) : ∃ y : Nat, y < n ∧ idx (sinksL d k n) (i : Int) = some (y : Int) ∧ snkQ d k y = true := by
  rw [idx_lt hi]
  have hm : (sinksL d k n)[i] ∈ sinksL d k n := List.getElem_mem hi
  generalize (sinksL d k n)[i] = z at hm
  unfold sinksL at hm
  obtain ⟨y, hy, rfl⟩ := List.mem_map.1 hm
  obtain ⟨h1, h2⟩ := List.mem_filter.1 hy
  exact ⟨y, List.mem_range.1 h1, rfl, h2⟩

theorem impl_sinks_ev {d : TDesign} {k : Int} (h : smallD d) : Ev (fun n => impl_Design_sinks n d k) (sinksL d k (places d).length) := by
  have hl := places_len h
  have hL : Ev (fun n => impl_Design_sinks_L1 k (places d) n ([] : List Int) 0) (sinksL d k (places d).length, ((places d).length : Int)) := by
    refine loopF (Lf := impl_Design_sinks_L1 k (places d)) (S := fun j => sinksL d k j) (len := (places d).length) (fun n => ?_) (fun j hj X hX => ?_)
    · simp only [impl_Design_sinks_L1, lt_nat_f (Nat.le_refl _), cond_false]
    · have hc : (sinksL d k j).length + [(j : Int)].length ≤ 2147483648 := by
        rw [sinksL_len]
        have : cntP (snkQ d k) j ≤ j := cntP_le
        simp; omega
      simp only [impl_Design_sinks_L1, lt_nat_t hj, cond_true, idx_gt hj, Option.bind_some, w64_succ (show j < 9223372036854775807 by omega)]
      rw [sinksL_succ] at hX
      unfold snkQ at hX
      cases h1 : ((gt (places d) j).net == k)
      · rw [h1] at hX
        simp only [Bool.false_and, cond_false, List.append_nil] at hX ⊢
        exact hX
      · cases h2 : (gt (places d) j).drives
        · rw [h1, h2] at hX
          simp only [Bool.not_false, Bool.and_self, cond_true, appS_ok hc, Option.bind_some] at hX ⊢
          exact hX
        · rw [h1, h2] at hX
          simp only [Bool.not_true, Bool.and_false, cond_false, List.append_nil, cond_true] at hX ⊢
          exact hX
  unfold impl_Design_sinks
  exact Ev.bind (places_ev h) (Ev.bind hL .done)

/-- What a valid block says of a wire. -/
structure wireOk (b : TBlock) (i : Nat) : Prop where
  lo : 1 ≤ (gt b.Wires i).Parent.length
  hi : (gt b.Wires i).Parent.length ≤ 8
  res : (gt b.Wires i).Res.length = (gt b.Wires i).Parent.length
  cap : (gt b.Wires i).Cap.length = (gt b.Wires i).Parent.length
  par : ∀ j, 0 < j → j < (gt b.Wires i).Parent.length → 0 ≤ at0 (gt b.Wires i).Parent j ∧ at0 (gt b.Wires i).Parent j < j
  snk : (gt b.Wires i).Sink.length = (sinksL b.Design (i : Int) (places b.Design).length).length
  sin : ∀ j, j < (gt b.Wires i).Sink.length → 0 ≤ at0 (gt b.Wires i).Sink j ∧ at0 (gt b.Wires i).Sink j < (gt b.Wires i).Parent.length
theorem blockB_wire {b : TBlock} (h : blockB b = true) {i : Nat} (hi : i < b.Wires.length) : wireOk b i := by
  unfold blockB at h
  rw [Bool.and_eq_true, allN_iff] at h
  have := h.2 i hi
  unfold wireB lenB at this
  simp only [Bool.and_eq_true, decide_eq_true_eq, beq_iff_eq] at this
  obtain ⟨⟨h1, h2⟩, h3, h4, h5, _, _, h6, h7⟩ := this
  refine ⟨h1, h2, by omega, by omega, fun j hj0 hj => ?_, ?_, fun j hj => ?_⟩
  · have := allN_iff.1 h5 j hj
    unfold treeB at this
    rw [show decide (j = 0) = false by simp; omega] at this
    simp only [cond_false, inI_iff] at this
    omega
  · rw [sinksL_len]
    unfold snkN at h6
    omega
  · rw [all_allN (d := 0), allN_iff] at h7
    have := h7 j hj
    rw [inI_iff] at this
    unfold at0
    omega
theorem blockB_len {b : TBlock} (h : blockB b = true) : b.Wires.length = b.Design.Nets.length := by
  unfold blockB at h
  simp only [Bool.and_eq_true, beq_iff_eq] at h
  omega

theorem capOf_ev {b : TBlock} (h : blockB b = true) {j : Nat} (hj : j < (places b.Design).length) : ∃ c, ∀ n, impl_Design_capOf n b.Design b.Library (gt (places b.Design) j) = some c := by
  have hd := blockB_des h
  rcases place_cases hj with ⟨i, k, hi, hk, _, e⟩ | ⟨i, hi, _, e⟩
  · rw [e]
    obtain ⟨⟨c0, c1⟩, hn, _⟩ := inst_cell hd hi
    refine ⟨(gt (gt b.Library.Cells (gt b.Design.Instances i).Cell.toNat).Pins k).Cap, fun n => ?_⟩
    unfold place1
    simp only [impl_Design_capOf, show decide ((i : Int) < 0) = false by simp, cond_false, idx_gt hi, Option.bind_some, idx_gi c0 c1, idx_gt (show k < (gt b.Library.Cells (gt b.Design.Instances i).Cell.toNat).Pins.length by omega)]
  · rw [e]
    exact ⟨0, fun n => rfl⟩

theorem nodeLoads_ev {b : TBlock} (h : blockB b = true) {i : Nat} (hi : i < b.Wires.length) : ∃ r : List Int, r.length = (gt b.Wires i).Parent.length ∧ Ev (fun n => impl_Block_nodeLoads n b (i : Int)) r := by
  have hw := blockB_wire h hi
  have hs := designB_small (blockB_des h)
  have hlo := hw.lo
  have hhi := hw.hi
  have hcap := hw.cap
  have hl := places_len hs
  obtain ⟨x1, i1, e1⟩ := loopE (Lf := impl_Block_nodeLoads_L1 b (gt b.Wires i) (places b.Design) (sinksL b.Design (i : Int) (places b.Design).length)) (fin := fun t => (t, ((sinksL b.Design (i : Int) (places b.Design).length).length : Int))) (fun _ t => t.length = (gt b.Wires i).Parent.length) (len := (sinksL b.Design (i : Int) (places b.Design).length).length)
    (fun n t => by simp only [impl_Block_nodeLoads_L1, lt_nat_f (Nat.le_refl _), cond_false])
    (fun j t hj ht => by
      obtain ⟨y, hy, ey, _⟩ := sinksL_at hj
      obtain ⟨c, hc⟩ := capOf_ev h hy
      have hjs : j < (gt b.Wires i).Sink.length := by rw [hw.snk]; exact hj
      have hsn := hw.sin j hjs
      have hb : j < 9223372036854775807 := by
        rw [sinksL_len] at hj
        have : cntP (snkQ b.Design (i : Int)) (places b.Design).length ≤ (places b.Design).length := cntP_le
        omega
      refine ⟨setS t (at0 (gt b.Wires i).Sink j) (W64 (gt t (at0 (gt b.Wires i).Sink j).toNat + c)), by rw [setS_len]; exact ht, fun X hX => ?_⟩
      simp only [impl_Block_nodeLoads_L1, lt_nat_t hj, cond_true, ey, Option.bind_some, idx_at0 hjs, idx_gi hsn.1 (show at0 (gt b.Wires i).Sink j < (t.length : Int) by omega), idx_gt hy, w64_succ hb]
      exact Ev.bind ⟨0, fun n _ => hc n⟩ hX) 0 (Nat.zero_le _) (gt b.Wires i).Cap hcap
  obtain ⟨x2, i2, e2⟩ := loopDn (Lf := impl_Block_nodeLoads_L2 (gt b.Wires i)) (fin := fun t => (t, (0 : Int))) (fun t => t.length = (gt b.Wires i).Parent.length) ((gt b.Wires i).Parent.length - 1)
    (fun n t => by simp only [impl_Block_nodeLoads_L2, show decide ((0 : Int) > 0) = false from rfl, cond_false])
    (fun j t h0 hj ht => by
      have hp := hw.par j h0 (by omega)
      refine ⟨setS t (at0 (gt b.Wires i).Parent j) (W64 (gt t (at0 (gt b.Wires i).Parent j).toNat + gt t j)), by rw [setS_len]; exact ht, fun X hX => ?_⟩
      simp only [impl_Block_nodeLoads_L2, show decide ((j : Int) > 0) = true by simp; omega, cond_true, idx_at0 (show j < (gt b.Wires i).Parent.length by omega), Option.bind_some, idx_gi hp.1 (show at0 (gt b.Wires i).Parent j < (t.length : Int) by omega), idx_gt (show j < t.length by omega), show (j : Int) - 1 = ((j - 1 : Nat) : Int) by omega, w64_of (show -9223372036854775808 ≤ ((j - 1 : Nat) : Int) by omega) (by omega)]
      exact hX) x1 i1
  refine ⟨x2, i2, ?_⟩
  unfold impl_Block_nodeLoads slices_Clone_int64
  rw [idx_gt hi]
  simp only [Option.bind_some, appS_ok (show ([] : List Int).length + (gt b.Wires i).Cap.length ≤ 2147483648 by simp; omega), List.nil_append]
  refine Ev.bind (places_ev hs) (Ev.bind (impl_sinks_ev hs) (Ev.bind e1 ?_))
  rw [w64_pred (show (gt b.Wires i).Cap.length ≤ 9223372036854775807 by omega), show ((gt b.Wires i).Cap.length : Int) - 1 = (((gt b.Wires i).Parent.length - 1 : Nat) : Int) by omega]
  exact Ev.bind e2 .done

theorem exactDelays_ev {b : TBlock} (h : blockB b = true) {i : Nat} (hi : i < b.Wires.length) : ∃ r : List Int, r.length = (gt b.Wires i).Sink.length ∧ Ev (fun n => impl_Block_exactDelays n b (i : Int)) r := by
  have hw := blockB_wire h hi
  have hs := designB_small (blockB_des h)
  have hlo := hw.lo
  have hhi := hw.hi
  have hres := hw.res
  have hl := places_len hs
  have hsl : (gt b.Wires i).Sink.length ≤ 78 := by
    rw [hw.snk, sinksL_len]
    have : cntP (snkQ b.Design (i : Int)) (places b.Design).length ≤ (places b.Design).length := cntP_le
    omega
  obtain ⟨r1, l1, e1⟩ := nodeLoads_ev h hi
  have hmk : mkS (r1.length : Int) (0 : Int) = some (List.replicate r1.length 0) := mkS_len (by omega)
  obtain ⟨x2, i2, e2⟩ := loopE (Lf := impl_Block_nodeDelays_L1 (gt b.Wires i) r1 (List.replicate r1.length 0)) (fin := fun t => (t, (r1.length : Int))) (fun j t => 1 ≤ j ∧ t.length = (gt b.Wires i).Parent.length) (len := r1.length)
    (fun n t => by simp only [impl_Block_nodeDelays_L1, List.length_replicate, lt_nat_f (Nat.le_refl _), cond_false])
    (fun j t hj ht => by
      obtain ⟨h1, ht⟩ := ht
      have hp := hw.par j (by omega) (by omega)
      refine ⟨setS t (j : Int) (W64 (gt t (at0 (gt b.Wires i).Parent j).toNat + W64 (at0 (gt b.Wires i).Res j * gt r1 j))), ⟨by omega, by rw [setS_len]; exact ht⟩, fun X hX => ?_⟩
      simp only [impl_Block_nodeDelays_L1, List.length_replicate, lt_nat_t hj, cond_true, idx_at0 (show j < (gt b.Wires i).Parent.length by omega), Option.bind_some, idx_gi hp.1 (show at0 (gt b.Wires i).Parent j < (t.length : Int) by omega), idx_at0 (show j < (gt b.Wires i).Res.length by omega), idx_gt hj, idx_gt (show j < t.length by omega), w64_succ (show j < 9223372036854775807 by omega)]
      exact hX) 1 (by omega) (List.replicate r1.length 0) ⟨Nat.le_refl _, by rw [List.length_replicate]; exact l1⟩
  obtain ⟨x3, i3, e3⟩ := loopE (Lf := impl_Block_exactDelays_L1 x2 (gt b.Wires i)) (fin := fun t => (t, ((gt b.Wires i).Sink.length : Int))) (fun j t => t.length = j) (len := (gt b.Wires i).Sink.length)
    (fun n t => by simp only [impl_Block_exactDelays_L1, lt_nat_f (Nat.le_refl _), cond_false])
    (fun j t hj ht => by
      have hsn := hw.sin j hj
      have hx2 := i2.2
      refine ⟨t ++ [gt x2 (at0 (gt b.Wires i).Sink j).toNat], by simp [ht], fun X hX => ?_⟩
      simp only [impl_Block_exactDelays_L1, lt_nat_t hj, cond_true, idx_at0 hj, Option.bind_some, idx_gi hsn.1 (show at0 (gt b.Wires i).Sink j < (x2.length : Int) by omega), appS_ok (show t.length + [gt x2 (at0 (gt b.Wires i).Sink j).toNat].length ≤ 2147483648 by simp; omega), w64_succ (show j < 9223372036854775807 by omega)]
      exact hX) 0 (Nat.zero_le _) [] rfl
  refine ⟨x3, i3, ?_⟩
  unfold impl_Block_exactDelays impl_Block_nodeDelays
  rw [idx_gt hi]
  simp only [Option.bind_some]
  refine Ev.bind (b := x2) (Ev.bind e1 ?_) (Ev.bind e3 .done)
  rw [hmk]
  simp only [Option.bind_some]
  exact Ev.bind e2 .done
end Go.Fw


namespace Go.Fw
open Go
set_option maxRecDepth 100000

instance : Inhabited TLink := ⟨⟨0, 0, 0, 0⟩⟩
instance : Inhabited TA2_Int := ⟨⟨0, 0⟩⟩

theorem mkS_nat {α : Type} {m : Nat} {z : α} (h : m ≤ 2147483648) : mkS (m : Int) z = some (List.replicate m z) := by
  unfold mkS big
  rw [if_pos ⟨by omega, by omega⟩, Int.toNat_natCast]
theorem gt_set_ne {α : Type} [Inhabited α] {xs : List α} {a k : Nat} {y : α} (h : k ≠ a) : gt (xs.set a y) k = gt xs k := by
  unfold gt
  rw [List.getD_eq_getElem?_getD, List.getElem?_set_ne (by omega), ← List.getD_eq_getElem?_getD]
theorem gt_set_self {α : Type} [Inhabited α] {xs : List α} {a : Nat} {y : α} (h : a < xs.length) : gt (xs.set a y) a = y := by
  rw [gt_eq (by rw [List.length_set]; exact h), List.getElem_set_self]
theorem trans_eq {a : TArc} : ∃ r : List TA2_Int, r.length ≤ 4 ∧ ∀ n, impl_Arc_transitions n a = some r := by
  unfold impl_Arc_transitions
  simp only [bne, bnot_bif]
  cases (a.Kind == 2)
  · cases (a.Kind == 3)
    · cases (a.Kind == 1)
      · exact ⟨_, by decide, fun _ => rfl⟩
      · cases (a.Sense == 1)
        · cases (a.Sense == 2)
          · exact ⟨[⟨0, 0⟩, ⟨0, 1⟩, ⟨1, 0⟩, ⟨1, 1⟩], by decide, fun _ => rfl⟩
          · exact ⟨[⟨0, 1⟩, ⟨1, 0⟩], by decide, fun _ => rfl⟩
        · exact ⟨[⟨0, 0⟩, ⟨1, 1⟩], by decide, fun _ => rfl⟩
    · exact ⟨[⟨1, 0⟩, ⟨1, 1⟩], by decide, fun _ => rfl⟩
  · exact ⟨[⟨0, 0⟩, ⟨0, 1⟩], by decide, fun _ => rfl⟩

theorem cellLinks_ev {b : TBlock} {first : Int} (h : blockB b = true) {i : Nat} (hi : i < b.Design.Instances.length) : ∃ r : List TLink, r.length ≤ 32 ∧ Ev (fun n => impl_Block_cellLinks n b (gt b.Design.Instances i) first) r := by
  obtain ⟨⟨c0, c1⟩, _, hcb⟩ := inst_cell (blockB_des h) hi
  have ha := cellB_arcs hcb
  obtain ⟨x1, i1, e1⟩ := loopE (Lf := impl_Block_cellLinks_L1 first (gt b.Library.Cells (gt b.Design.Instances i).Cell.toNat)) (fin := fun t => (t, ((gt b.Library.Cells (gt b.Design.Instances i).Cell.toNat).Arcs.length : Int))) (fun j t => t.length ≤ 4 * j) (len := (gt b.Library.Cells (gt b.Design.Instances i).Cell.toNat).Arcs.length)
    (fun n t => by simp only [impl_Block_cellLinks_L1, lt_nat_f (Nat.le_refl _), cond_false])
    (fun j t hj ht => by
      obtain ⟨r, hr, er⟩ := trans_eq (a := gt (gt b.Library.Cells (gt b.Design.Instances i).Cell.toNat).Arcs j)
      obtain ⟨x2, i2, e2⟩ := loopE (Lf := impl_Block_cellLinks_L2 first (j : Int) (gt (gt b.Library.Cells (gt b.Design.Instances i).Cell.toNat).Arcs j) r) (fin := fun t => (t, (r.length : Int))) (fun k t' => t'.length = t.length + k) (len := r.length)
        (fun n t => by simp only [impl_Block_cellLinks_L2, lt_nat_f (Nat.le_refl _), cond_false])
        (fun k t' hk ht' => ⟨t' ++ [_], by rw [List.length_append, ht', List.length_singleton]; omega, fun X hX => by
          simp only [impl_Block_cellLinks_L2, lt_nat_t hk, cond_true, idx_gt hk, Option.bind_some, w64_succ (show k < 9223372036854775807 by omega)]
          rw [appS_ok (by rw [List.length_singleton]; omega)]
          exact hX⟩) 0 (Nat.zero_le _) t rfl
      refine ⟨x2, by omega, fun X hX => ?_⟩
      simp only [impl_Block_cellLinks_L1, lt_nat_t hj, cond_true, idx_gt hj, Option.bind_some, er, w64_succ (show j < 9223372036854775807 by omega)]
      exact Ev.bind e2 hX) 0 (Nat.zero_le _) [] (Nat.le_refl _)
  refine ⟨x1, by omega, ?_⟩
  unfold impl_Block_cellLinks
  rw [idx_gi c0 c1]
  simp only [Option.bind_some]
  exact Ev.bind e1 .done

theorem newView_ev {b : TBlock} (h : blockB b = true) : ∃ ls lo de, Ev (fun n => impl_newView n b) (some ⟨b, places b.Design, ls, lo, de, []⟩) := by
  have hd := blockB_des h
  have hs := designB_small hd
  have hl := places_len hs
  have hni := hs.ni
  have hnn := hs.nn
  have hwl := blockB_len h
  obtain ⟨⟨x1, z1⟩, i1, e1⟩ := loopE (τ := List TLink × Int) (Lf := fun n t j => impl_newView_L1 b n t.1 t.2 j) (fin := fun t => (t.1, t.2, (b.Design.Instances.length : Int))) (fun j t => t.1.length ≤ 32 * j) (len := b.Design.Instances.length)
    (fun n t => by simp only [impl_newView_L1, lt_nat_f (Nat.le_refl _), cond_false])
    (fun j t hj ht => by
      obtain ⟨r, hr, er⟩ := cellLinks_ev (first := t.2) h hj
      refine ⟨(t.1 ++ r, W64 (t.2 + ((gt b.Design.Instances j).Nets.length : Int))), by rw [List.length_append]; omega, fun X hX => ?_⟩
      simp only [impl_newView_L1, lt_nat_t hj, cond_true, idx_gt hj, Option.bind_some, impl_length_int64, w64_succ (show j < 9223372036854775807 by omega)]
      have ht' : t.1.length ≤ 32 * j := ht
      refine Ev.bind er ?_
      rw [appS_ok (show t.1.length + r.length ≤ 2147483648 by omega)]
      exact hX) 0 (Nat.zero_le _) ([], 0) (Nat.le_refl _)
  have hm1 : mkS (b.Wires.length : Int) (0 : Int) = some (List.replicate b.Wires.length 0) := mkS_nat (by omega)
  have hm2 : mkS (b.Wires.length : Int) ([] : List Int) = some (List.replicate b.Wires.length []) := mkS_nat (by omega)
  obtain ⟨⟨x5, x6⟩, ⟨i5, i6, i56⟩, e2⟩ := loopE (τ := List (List Int) × List Int) (Lf := fun n t j => impl_newView_L2 (places b.Design) n t.1 t.2 j) (fin := fun t => (t.1, t.2, ((places b.Design).length : Int))) (fun j t => t.1.length = b.Wires.length ∧ t.2.length = b.Wires.length ∧ ∀ k, (gt t.1 k).length ≤ j) (len := (places b.Design).length)
    (fun n t => by simp only [impl_newView_L2, lt_nat_f (Nat.le_refl _), cond_false])
    (fun j t hj ht => by
      obtain ⟨h1, h2, h3⟩ := ht
      obtain ⟨n0, n1⟩ := places_net hd hj
      cases hdr : (gt (places b.Design) j).drives
      · refine ⟨(setS t.1 (gt (places b.Design) j).net (gt t.1 (gt (places b.Design) j).net.toNat ++ [(j : Int)]), t.2), ⟨by rw [setS_len]; exact h1, h2, fun k => ?_⟩, fun X hX => ?_⟩
        · show (gt (t.1.set _ _) k).length ≤ j + 1
          by_cases hk : k = (gt (places b.Design) j).net.toNat
          · subst hk
            rw [gt_set_self (by omega), List.length_append, List.length_singleton]
            have := h3 (gt (places b.Design) j).net.toNat
            omega
          · rw [gt_set_ne hk]
            have := h3 k
            omega
        · have := h3 (gt (places b.Design) j).net.toNat
          simp only [impl_newView_L2, lt_nat_t hj, cond_true, idx_gt hj, Option.bind_some, hdr, cond_false, idx_gi n0 (show (gt (places b.Design) j).net < (t.1.length : Int) by omega), w64_succ (show j < 9223372036854775807 by omega)]
          rw [appS_ok (by rw [List.length_singleton]; omega)]
          exact hX
      · refine ⟨(t.1, setS t.2 (gt (places b.Design) j).net (j : Int)), ⟨h1, by rw [setS_len]; exact h2, fun k => Nat.le_succ_of_le (h3 k)⟩, fun X hX => ?_⟩
        simp only [impl_newView_L2, lt_nat_t hj, cond_true, idx_gt hj, Option.bind_some, hdr, idx_gi n0 (show (gt (places b.Design) j).net < (t.2.length : Int) by omega), w64_succ (show j < 9223372036854775807 by omega)]
        exact hX) 0 (Nat.zero_le _) (List.replicate b.Wires.length [], List.replicate b.Wires.length 0) ⟨by simp, by simp, fun k => by
      have : gt (List.replicate b.Wires.length ([] : List Int)) k = [] := by
        unfold gt
        rw [List.getD_eq_getElem?_getD, List.getElem?_replicate]
        by_cases hk : k < b.Wires.length <;> simp [hk] <;> rfl
      rw [this]; exact Nat.le_refl _⟩
  have i5 : x5.length = b.Wires.length := i5
  have i6 : x6.length = b.Wires.length := i6
  have i56 : ∀ k, (gt x5 k).length ≤ (places b.Design).length := i56
  have hL5 : ∀ (i4 i5 y7 : Int) (y8 : Int) (t : List TLink), idx x6 i4 = some y8 → t.length ≤ 1000000 → ∃ t', t'.length = t.length + 2 ∧ Ev (fun n => impl_newView_L5 x6 i4 i5 y7 n t 0) (t', 2) := by
    intro i4 i5 y7 y8 t hy ht
    obtain ⟨t', h1, h2⟩ := loopE (Lf := impl_newView_L5 x6 i4 i5 y7) (fin := fun t => (t, (2 : Int))) (fun k t' => t'.length = t.length + k) (len := 2)
      (fun n t => by simp only [impl_newView_L5]; rfl)
      (fun k t' hk ht' => ⟨t' ++ [_], by rw [List.length_append, ht', List.length_singleton]; omega, fun X hX => by
        simp only [impl_newView_L5, show decide ((k : Int) < 2) = true by simp; omega, cond_true, hy, Option.bind_some, w64_succ (show k < 9223372036854775807 by omega)]
        rw [appS_ok (by rw [List.length_singleton]; omega)]
        exact hX⟩) 0 (Nat.zero_le _) t rfl
    exact ⟨t', h1, h2⟩
  have hL4 : ∀ (i4 y8 : Int) (y6 : List Int) (t : List TLink), idx x6 i4 = some y8 → y6.length ≤ 78 → t.length ≤ 900000 → ∃ t', t'.length = t.length + 2 * y6.length ∧ Ev (fun n => impl_newView_L4 x6 i4 y6 n t 0) (t', (y6.length : Int)) := by
    intro i4 y8 y6 t hy hy6 ht
    obtain ⟨t', h1, h2⟩ := loopE (Lf := impl_newView_L4 x6 i4 y6) (fin := fun t => (t, (y6.length : Int))) (fun k t' => t'.length = t.length + 2 * k) (len := y6.length)
      (fun n t => by simp only [impl_newView_L4, lt_nat_f (Nat.le_refl _), cond_false])
      (fun k t' hk ht' => by
        obtain ⟨t2, q1, q2⟩ := hL5 i4 (k : Int) (gt y6 k) y8 t' hy (by omega)
        refine ⟨t2, by omega, fun X hX => ?_⟩
        simp only [impl_newView_L4, lt_nat_t hk, cond_true, idx_gt hk, Option.bind_some, w64_succ (show k < 9223372036854775807 by omega)]
        exact Ev.bind q2 hX) 0 (Nat.zero_le _) t rfl
    exact ⟨t', h1, h2⟩
  obtain ⟨⟨x8, x9, x10⟩, _, e3⟩ := loopE (τ := List (List Int) × List Int × List TLink) (Lf := fun n t j => impl_newView_L3 b x5 x6 n t.1 t.2.1 t.2.2 j) (fin := fun t => (t.1, t.2.1, t.2.2, (b.Wires.length : Int))) (fun j t => t.1.length = j ∧ t.2.1.length = j ∧ t.2.2.length ≤ 448 + 156 * j) (len := b.Wires.length)
    (fun n t => by simp only [impl_newView_L3, lt_nat_f (Nat.le_refl _), cond_false])
    (fun j t hj ht => by
      obtain ⟨h1, h2, h3⟩ := ht
      have h1 : t.1.length = j := h1
      have h2 : t.2.1.length = j := h2
      have h3 : t.2.2.length ≤ 448 + 156 * j := h3
      have hw := blockB_wire h hj
      have hlo := hw.lo
      obtain ⟨r4, l4, e4⟩ := nodeLoads_ev h hj
      obtain ⟨r5, l5, e5⟩ := exactDelays_ev h hj
      have h6 := i56 j
      have hy8 : idx x6 (j : Int) = some (gt x6 j) := idx_gt (by omega)
      obtain ⟨t', q1, q2⟩ := hL4 (j : Int) (gt x6 j) (gt x5 j) t.2.2 hy8 (by omega) (by omega)
      refine ⟨(t.1 ++ [r5], t.2.1 ++ [gt r4 0], t'), ⟨by simp [h1], by simp [h2], ?_⟩, fun X hX => ?_⟩
      · show t'.length ≤ _
        omega
      · simp only [impl_newView_L3, lt_nat_t hj, cond_true, w64_succ (show j < 9223372036854775807 by omega)]
        refine Ev.bind e4 ?_
        rw [show idx r4 (0 : Int) = some (gt r4 0) from idx_gt (j := 0) (by omega)]
        simp only [Option.bind_some]
        rw [appS_ok (by rw [List.length_singleton]; omega)]
        simp only [Option.bind_some]
        refine Ev.bind e5 ?_
        rw [appS_ok (by rw [List.length_singleton]; omega), idx_gt (show j < x5.length by omega)]
        simp only [Option.bind_some]
        exact Ev.bind q2 hX) 0 (Nat.zero_le _) ([], [], x1) ⟨rfl, rfl, by show x1.length ≤ _; have : x1.length ≤ 32 * b.Design.Instances.length := i1; omega⟩
  refine ⟨x10, x9, x8, ?_⟩
  unfold impl_newView
  refine Ev.bind (places_ev hs) (Ev.bind e1 ?_)
  rw [hm1, hm2]
  simp only [Option.bind_some]
  exact Ev.bind e2 (Ev.bind e3 .done)
end Go.Fw


namespace Go.Fw
open Go
set_option maxRecDepth 100000

/-! ### Successors -/

def inPl (b : TBlock) (x : Int) : Bool := inI x 0 (((places b.Design).length : Int) - 1)
end Go.Fw
