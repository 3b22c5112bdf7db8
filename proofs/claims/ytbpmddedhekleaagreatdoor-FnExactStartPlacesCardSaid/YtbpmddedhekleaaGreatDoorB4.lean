/- Plain laws: pins, lists of tables. -/
import Derived.Test.YtbpmddedhekleaaGreatDoorB3
import Derived.Test.YtbpmddedhekleaaGreatDoorFw28
namespace Go.Fw
open Go
set_option maxRecDepth 100000

instance : Inhabited TPin := ⟨⟨ByteArray.empty, 0, 0, false⟩⟩
instance : Inhabited TTable := ⟨⟨[], [], []⟩⟩
instance : Inhabited TArc := ⟨⟨0, 0, 0, 0, [], []⟩⟩
instance : Inhabited TCell := ⟨⟨ByteArray.empty, 0, [], [], [], 0, 0⟩⟩
instance : Inhabited TInstance := ⟨⟨ByteArray.empty, 0, []⟩⟩
instance : Inhabited TPort := ⟨⟨ByteArray.empty, 0, 0⟩⟩
instance : Inhabited TWire := ⟨⟨[], [], [], []⟩⟩

theorem lastE {j m : Nat} (h : j < m) (hm : m ≤ 1048576) : ((j : Int) == W64 ((m : Int) - 1)) = decide (j + 1 = m) := by
  rcases last_eq h with h | h
  · exact h
  · omega
theorem strAt_map {α : Type} [Inhabited α] {xs : List α} {g : α → ByteArray} {j : Nat} (h : j < xs.length) : strAt (xs.map g) j = g (gt xs j) := by
  rw [strAt_eq (by simpa using h), gt_eq h]; simp
/-- Names that differ, by the list that they are taken from. -/
theorem okS_map {α : Type} {xs : List α} {g : α → ByteArray} {ok : α → Prop} (h : okL ok xs) (hg : ∀ x, ok x → okS (g x)) : okL okS (xs.map g) :=
  ⟨by rw [List.length_map]; exact h.1, fun y hy => by
    obtain ⟨x, hx, rfl⟩ := List.mem_map.1 hy
    exact hg x (h.2 x hx)⟩
theorem appS_one {α β : Type} {xs : List α} {g : α → β} {j : Nat} (h : j < xs.length) (hl : xs.length ≤ 1048576) {y : β} : appS ((xs.take j).map g) [y] = some ((xs.take j).map g ++ [y]) :=
  appS_ok (by simp; omega)

/-! ### Pins -/

def pinB (ps : List TPin) (j : Nat) : Bool :=
  bif decide (j + 1 = ps.length) then ((gt ps j).Dir == 2) && (((gt ps j).Cap == 0) && !(gt ps j).Clock) else ((gt ps j).Dir == 1) && inI (gt ps j).Cap 0 500
def pinsB (ps : List TPin) : Bool := allN (pinB ps) ps.length && (lenB ps 2 5 && namesB (ps.map TPin.Name))
def clkN (ps : List TPin) (j : Nat) : Nat := cntP (fun i => (gt ps i).Clock) j

theorem arePins_ev {ps : List TPin} (h : okL ok_Pin ps) : Ev (fun n => impl_arePins n ps) (pinsB ps) := by
  have hl := h.len
  have hL : Ev (fun n => impl_arePins_L1 ps n ([] : List ByteArray) 0) (bif allN (pinB ps) ps.length then .nxt (ps.map TPin.Name, (ps.length : Int)) else .ret false) := by
    refine loopN (Lf := impl_arePins_L1 ps) (S := fun j => (ps.take j).map TPin.Name) (pinB ps) (fun n => ?_) (fun j hj hp X hX => ?_)
    · simp only [impl_arePins_L1, lt_nat_f (Nat.le_refl _), cond_false, List.take_length]
    · simp only [impl_arePins_L1, lt_nat_t hj, cond_true, idx_gt hj, Option.bind_some, appS_one hj hl, take_succ_gt (g := TPin.Name) hj, lastE hj hl, bne, bnot_bif, within_eq, w64_succ (show j < 9223372036854775807 by omega)]
      generalize hc : pinB ps j = c at hX ⊢
      unfold pinB at hc
      cases hd : decide (j + 1 = ps.length)
      · rw [hd] at hc
        simp only [cond_false] at hc ⊢
        subst hc
        exact Ev.okP (fun h1 => Ev.okP1 (fun h2 => hX (by rw [h1, h2]; rfl)))
      · rw [hd] at hc
        simp only [cond_true] at hc ⊢
        subst hc
        refine Ev.okP (fun h1 => Ev.okP (fun h2 => Ev.chkP1 (fun h3 => hX (by rw [h1, h2, h3]; rfl))))
  unfold impl_arePins pinsB
  refine Ev.bind hL ?_
  cases allN (pinB ps) ps.length
  · exact .done
  · simp only [cond_true, impl_length_impl_Pin, within_eq, Option.bind_some, show inI (ps.length : Int) 2 5 = lenB ps 2 5 from lenB_in (lo := 2) (hi := 5), Bool.true_and]
    exact Ev.andP (fun _ => Ev.last (areNames_ev (okS_map h (fun x hx => hx.Name))))

/-- A check of the reference, one pin. -/
def pinS (ps : List TPin) (j : Nat) : Bool := allN (neB (ps.map TPin.Name) j) j && ((nameB (gt ps j).Name && inI (gt ps j).Cap 0 500) && (bif decide (j + 1 = ps.length) then ((gt ps j).Dir == 2) && (((gt ps j).Cap == 0) && !(gt ps j).Clock) else ((gt ps j).Dir == 1)))

theorem pinS_eq {ps : List TPin} : (lenB ps 2 5 && allN (pinS ps) ps.length) = pinsB ps := by
  have e : namesB (ps.map TPin.Name) = allN (fun j => nameB (gt ps j).Name && allN (neB (ps.map TPin.Name) j) j) ps.length := by
    unfold namesB
    rw [List.length_map]
    exact allN_congr (fun j hj => by rw [strAt_map hj])
  unfold pinsB
  rw [e, ← Bool.and_assoc, Bool.and_comm (allN (pinB ps) ps.length), Bool.and_assoc, ← allN_and]
  congr 1
  refine allN_congr (fun j hj => ?_)
  unfold pinS pinB
  cases hd : decide (j + 1 = ps.length)
  · simp only [cond_false]
    cases allN (neB (ps.map TPin.Name) j) j <;> cases nameB (gt ps j).Name <;> cases inI (gt ps j).Cap 0 500 <;> cases ((gt ps j).Dir == 1) <;> rfl
  · simp only [cond_true]
    cases hcap : ((gt ps j).Cap == 0)
    · simp
    · have : inI (gt ps j).Cap 0 500 = true := by rw [beq_iff_eq] at hcap; rw [hcap]; rfl
      rw [this]
      cases allN (neB (ps.map TPin.Name) j) j <;> cases nameB (gt ps j).Name <;> cases ((gt ps j).Dir == 2) <;> cases (gt ps j).Clock <;> rfl

theorem l03Pins_ev {c : TCell} (h : okL ok_Pin c.Pins) : Ev (fun n => spec_l03Pins n c) (bif pinsB c.Pins then (((clkN c.Pins c.Pins.length : Nat) : Int), true) else (0, false)) := by
  have hl := h.len
  have hL2 : ∀ j, j < c.Pins.length → Ev (fun n => spec_l03Pins_L2 c (j : Int) (gt c.Pins j) n 0) (bif allN (neB (c.Pins.map TPin.Name) j) j then .nxt (j : Int) else .ret (0, false)) := by
    intro j hj
    refine ev_all ?_ (fun i hi X hX => Ev.succ ?_)
    · exact Ev.succ (by simp only [spec_l03Pins_L2, lt_nat_f (Nat.le_refl _), cond_false]; exact .done)
    · simp only [spec_l03Pins_L2, lt_nat_t hi, cond_true, idx_gt (show i < c.Pins.length by omega), Option.bind_some, toList_eq_iff, w64_succ (show i < 9223372036854775807 by omega)]
      unfold neB
      rw [strAt_map (g := TPin.Name) (show i < c.Pins.length by omega), strAt_map (g := TPin.Name) hj]
      exact Ev.chkP1 (fun _ => hX)
  have hL1 : Ev (fun n => spec_l03Pins_L1 c n 0 0) (bif allN (pinS c.Pins) c.Pins.length then .nxt (((clkN c.Pins c.Pins.length : Nat) : Int), (c.Pins.length : Int)) else .ret (0, false)) := by
    refine loopN (Lf := spec_l03Pins_L1 c) (S := fun j => ((clkN c.Pins j : Nat) : Int)) (pinS c.Pins) (fun n => ?_) (fun j hj hp X hX => ?_)
    · simp only [spec_l03Pins_L1, lt_nat_f (Nat.le_refl _), cond_false]
    · have hn : clkN c.Pins j ≤ j := cntP_le
      have ejl : ((j : Int) == W64 ((c.Pins.length : Int) - 1)) = decide (j + 1 = c.Pins.length) := lastE hj hl
      have elt : decide ((j : Int) < W64 ((c.Pins.length : Int) - 1)) = !decide (j + 1 = c.Pins.length) := by
        rw [w64_of (by omega) (by omega), Bool.eq_iff_iff]; simp; omega
      simp only [spec_l03Pins_L1, lt_nat_t hj, cond_true, idx_gt hj, Option.bind_some, w64_succ (show j < 9223372036854775807 by omega), w64_succ (show clkN c.Pins j < 9223372036854775807 by omega), ejl, elt, l01In_eq]
      unfold pinS
      refine Ev.bind (hL2 j hj) ?_
      cases ha : allN (neB (c.Pins.map TPin.Name) j) j
      · exact .done
      · simp only [cond_true, Bool.true_and]
        refine Ev.chkT ?_ (fun h1 => ?_)
        · exact Ev.or (l03Name_ev (gt_ok h hj).Name) (fun _ => .done)
        · refine Ev.chkT1 ?_ (fun h2 => ?_)
          · cases decide (j + 1 = c.Pins.length)
            · exact .done
            · simp only [cond_true, Bool.not_true, cond_false, bne, bnot_bif]
              cases ((gt c.Pins j).Dir == 2) <;> cases ((gt c.Pins j).Cap == 0) <;> cases (gt c.Pins j).Clock <;> exact .done
          · have hX := hX (by unfold pinS; rw [ha, h1, h2]; rfl)
            have hck : clkN c.Pins (j + 1) = clkN c.Pins j + (bif (gt c.Pins j).Clock then 1 else 0) := rfl
            rw [hck] at hX
            cases hc : (gt c.Pins j).Clock
            · rw [hc] at hX; exact Ev.ff rfl hX
            · rw [hc] at hX; exact Ev.tt rfl hX
  rw [← pinS_eq]
  unfold spec_l03Pins
  refine Ev.guard ?_ (fun h1 => ?_)
  · unfold lenB
    have e1 : decide ((c.Pins.length : Int) < 2) = !decide (2 ≤ c.Pins.length) := by rw [Bool.eq_iff_iff]; simp; omega
    have e2 : decide ((c.Pins.length : Int) > 5) = !decide (c.Pins.length ≤ 5) := by rw [Bool.eq_iff_iff]; simp; omega
    rw [e1, e2]
    cases decide (2 ≤ c.Pins.length) <;> cases decide (c.Pins.length ≤ 5) <;> exact .done
  · refine Ev.bind hL1 ?_
    cases allN (pinS c.Pins) c.Pins.length <;> exact .done

/-! ### Lists of tables -/

def mnL (xs : List Int) : Int := (xs.drop 1).foldl (fun m y => if y < m then y else m) (at0 xs 0)
def mxL (xs : List Int) : Int := (xs.drop 1).foldl (fun m y => if y > m then y else m) (at0 xs 0)

theorem tableB_pos {t : TTable} (h : tableB t = true) : 1 ≤ t.Values.length := by
  unfold tableB axisB lenB at h
  simp only [Bool.and_eq_true, decide_eq_true_eq] at h
  obtain ⟨⟨⟨h1, _⟩, _⟩, ⟨⟨h2, _⟩, _⟩, h3, _⟩ := h
  rw [h3]
  exact Nat.mul_pos h1 h2

theorem sMin_ev {xs : List Int} (h1 : 1 ≤ xs.length) (hl : xs.length ≤ 1048576) : Ev (fun n => slices_Min_int64 n xs) (mnL xs) := by
  have hL := (fold_from (Lf := fun n t j => slices_Min_int64_L1 xs n t j) (xs := xs) (step := fun (m y : Int) => if y < m then y else m) (fin := fun t => (t, (xs.length : Int))) 1 (at0 xs 0) (fun _ _ => True) h1 trivial (fun _ _ _ _ => trivial)
    (fun n t => by simp only [slices_Min_int64_L1, lt_nat_f (Nat.le_refl _), cond_false])
    (fun j t hj _ X hX => by simpa only [slices_Min_int64_L1, lt_nat_t hj, cond_true, idx_lt hj, Option.bind_some, w64_succ (show j < 9223372036854775807 by omega)] using hX)).1
  unfold slices_Min_int64
  rw [show decide ((xs.length : Int) < 1) = false by simp; omega, show idx xs (0 : Int) = some (at0 xs 0) from idx_at0 (j := 0) (by omega)]
  simp only [cond_false, Option.bind_some]
  exact Ev.bind hL .done

theorem tBounds_ev {t : TTable} (h : ok_Table t) : Ev (fun n => spec_TableBounds n t) (bif tableB t then (⟨mnL t.Values, mxL t.Values⟩, 0) else (⟨0, 0⟩, 1)) := by
  unfold spec_TableBounds
  refine Ev.chk1 (sIsTable_ev h) (fun hb => ?_)
  have h1 := tableB_pos hb
  have hl := h.Values.len
  have hL := (fold_from (Lf := fun n (t' : Int × Int) j => spec_TableBounds_L1 t n t'.1 t'.2 j) (xs := t.Values) (step := fun (m : Int × Int) y => (if y < m.1 then y else m.1, if y > m.2 then y else m.2)) (fin := fun t' => (t'.1, t'.2, (t.Values.length : Int))) 1 (at0 t.Values 0, at0 t.Values 0) (fun _ _ => True) h1 trivial (fun _ _ _ _ => trivial)
    (fun n t => by simp only [spec_TableBounds_L1, lt_nat_f (Nat.le_refl _), cond_false])
    (fun j t hj _ X hX => by simpa only [spec_TableBounds_L1, lt_nat_t hj, cond_true, idx_lt hj, Option.bind_some, w64_succ (show j < 9223372036854775807 by omega)] using hX)).1
  have hf : ∀ (ys : List Int) (a b : Int), ys.foldl (fun (m : Int × Int) y => (if y < m.1 then y else m.1, if y > m.2 then y else m.2)) (a, b) = (ys.foldl (fun m y => if y < m then y else m) a, ys.foldl (fun m y => if y > m then y else m) b) := by
    intro ys
    induction ys with
    | nil => intro a b; rfl
    | cons y ys ih => intro a b; simp only [List.foldl_cons, ih]
  rw [hf] at hL
  rw [show idx t.Values (0 : Int) = some (at0 t.Values 0) from idx_at0 (j := 0) (by omega)]
  simp only [Option.bind_some]
  exact Ev.bind hL .done

def tabB (pos : Bool) (t : TTable) : Bool := tableB t && (!pos || decide (0 ≤ mnL t.Values))
def tablesB (ts : List TTable) (pos : Bool) : Bool := decide (ts.length = 2) && ts.all (tabB pos)

theorem areTables_ev {ts : List TTable} {pos : Bool} (h : okL ok_Table ts) : Ev (fun n => impl_areTables n ts pos) (tablesB ts pos) := by
  have hl := h.len
  have h1 : Ev (fun n => slices_IndexFunc_impl_Table_impl_areTables_1 n ts pos) (ixL (fun x => !tabB pos x) ts) :=
    index_ev (fin := (ts.length : Int)) (Lf := slices_IndexFunc_impl_Table_impl_areTables_1_L1 ts pos) (pf := fun n x => impl_areTables_1 n x pos) (fun x hx => by
        unfold impl_areTables_1 tabB
        refine Ev.or (IsTable_ev (h.2 x hx)) (fun hb => ?_)
        cases pos
        · exact .done
        · refine Ev.tt rfl (Ev.bind (sMin_ev (tableB_pos hb) (h.2 x hx).Values.len) (Ev.now ?_))
          congr 1
          rw [Bool.eq_iff_iff]; simp)
      (fun n => by simp only [slices_IndexFunc_impl_Table_impl_areTables_1_L1, lt_nat_f (Nat.le_refl _), cond_false])
      (fun n j x hx => by
        have hj := (List.getElem?_eq_some_iff.1 hx).1
        simp only [slices_IndexFunc_impl_Table_impl_areTables_1_L1, lt_nat_t hj, cond_true, idx_at hx, Option.bind_some, w64_succ (show j < 9223372036854775807 by omega)])
      (fun n => by unfold slices_IndexFunc_impl_Table_impl_areTables_1; congr 1; funext o; cases o <;> rfl)
  unfold impl_areTables slices_ContainsFunc_impl_Table_impl_areTables_1 tablesB
  rw [show ((ts.length : Int) == 2) = decide (ts.length = 2) by rw [Bool.eq_iff_iff]; simp; omega]
  refine Ev.andP (fun _ => Ev.bind (Ev.bind h1 (Ev.now rfl)) (Ev.now ?_))
  rw [ixL_ge, not_any]

theorem l03Tables_ev {ts : List TTable} {pos : Bool} (h : okL ok_Table ts) : Ev (fun n => spec_l03Tables n ts pos) (tablesB ts pos) := by
  unfold spec_l03Tables tablesB
  rw [show ((ts.length : Int) != 2) = !decide (ts.length = 2) by rw [Bool.eq_iff_iff]; simp; omega]
  simp only [bnot_bif]
  refine Ev.andP (fun h2 => ?_)
  have h2 : ts.length = 2 := by simpa using h2
  have hL : Ev (fun n => spec_l03Tables_L1 ts pos n 0) (bif allN (fun j => tabB pos (gt ts j)) ts.length then .nxt (2 : Int) else .ret false) := by
    refine ev_all (len := ts.length) ?_ (fun j hj X hX => Ev.succ ?_)
    · rw [h2]; exact Ev.succ (by simp only [spec_l03Tables_L1]; exact .done)
    · simp only [spec_l03Tables_L1, show decide ((j : Int) < 2) = true by simp; omega, cond_true, idx_gt hj, Option.bind_some, w64_succ (show j < 9223372036854775807 by omega)]
      refine Ev.bind (tBounds_ev (gt_ok h hj)) ?_
      unfold tabB
      cases tableB (gt ts j)
      · exact .done
      · simp only [cond_true, Bool.true_and]
        refine Ev.ff rfl ?_
        cases pos
        · exact hX
        · refine Ev.tt rfl ?_
          rw [show decide (mnL (gt ts j).Values < 0) = !decide (0 ≤ mnL (gt ts j).Values) by rw [Bool.eq_iff_iff]; simp]
          simp only [bnot_bif]
          exact Ev.okP1 (fun _ => hX)
  rw [all_gt]
  refine Ev.bind hL ?_
  cases allN (fun j => tabB pos (gt ts j)) ts.length <;> exact .done
end Go.Fw
