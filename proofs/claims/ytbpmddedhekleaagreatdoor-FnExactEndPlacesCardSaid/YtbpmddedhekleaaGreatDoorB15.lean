/- Plain laws: end places; the law. -/
import Derived.Test.YtbpmddedhekleaaGreatDoorB14
import Derived.Test.YtbpmddedhekleaaGreatDoorF1
namespace Go.Fw
open Go
set_option maxRecDepth 100000

def chkB (c : TCell) (pin : Int) : Bool := c.Arcs.any fun a => (a.To == pin) && decide (a.Kind ≥ 4)
theorem l22Checked_ev {c : TCell} {pin : Int} (hc : cellB c = true) : Ev (fun n => spec_l22Checked n c pin) (chkB c pin) := by
  have hA := cellB_arcs hc
  have hL : Ev (fun n => spec_l22Checked_L1 c pin n 0) (bif (c.Arcs.all fun a => !((a.To == pin) && decide (a.Kind ≥ 4))) then .nxt (c.Arcs.length : Int) else .ret true) :=
    all_loop (fun n => by simp only [spec_l22Checked_L1, lt_nat_f (Nat.le_refl _), cond_false]) (fun m hm X hX => by
      simp only [spec_l22Checked_L1, lt_nat_t hm, cond_true, idx_lt hm, Option.bind_some, w64_succ (show m < 9223372036854775807 by omega)]
      cases (c.Arcs[m].To == pin)
      · exact hX
      · cases decide (c.Arcs[m].Kind ≥ 4)
        · exact hX
        · exact .done)
  have e : chkB c pin = !(c.Arcs.all fun a => !((a.To == pin) && decide (a.Kind ≥ 4))) := by
    unfold chkB
    rw [Bool.eq_iff_iff]
    simp
  unfold spec_l22Checked
  rw [e]
  refine Ev.bind hL ?_
  cases (c.Arcs.all fun a => !((a.To == pin) && decide (a.Kind ≥ 4))) <;> exact .done

theorem chk_ev {c : TCell} {p : Tplace} (hc : cellB c = true) : Ev (fun n => slices_ContainsFunc_impl_Arc_impl_view_isEnd_1 n c.Arcs p) (chkB c p.pin) := by
  have ha := cellB_arcs hc
  unfold slices_ContainsFunc_impl_Arc_impl_view_isEnd_1
  refine Ev.bind (b := ixL (fun a : TArc => (a.To == p.pin) && decide (a.Kind ≥ 4)) c.Arcs) (index_ev (fin := (c.Arcs.length : Int)) (Lf := slices_IndexFunc_impl_Arc_impl_view_isEnd_1_L1 c.Arcs p) (pf := fun n x => impl_view_isEnd_1 n x p) (fun x hx => ?_)
    (fun n => by simp only [slices_IndexFunc_impl_Arc_impl_view_isEnd_1_L1, lt_nat_f (Nat.le_refl _), cond_false])
    (fun n j x hx => by
      have hj := (List.getElem?_eq_some_iff.1 hx).1
      simp only [slices_IndexFunc_impl_Arc_impl_view_isEnd_1_L1, lt_nat_t hj, cond_true, idx_at hx, Option.bind_some, w64_succ (show j < 9223372036854775807 by omega)])
    (fun n => by unfold slices_IndexFunc_impl_Arc_impl_view_isEnd_1; congr 1; funext o; cases o <;> rfl)) (Ev.now (by rw [ixL_ge]; rfl))
  obtain ⟨j, hj, rfl⟩ := List.getElem_of_mem hx
  have hk := (cellB_kinds hc hj).1
  rw [gt_eq hj] at hk
  refine ⟨0, fun n _ => ?_⟩
  have e : decide (c.Arcs[j].Kind ≥ 4) = ((c.Arcs[j].Kind == 4) || (c.Arcs[j].Kind == 5)) := by
    rw [Bool.eq_iff_iff]; simp; omega
  rw [e]
  show impl_view_isEnd_1 n c.Arcs[j] p = some _
  unfold impl_view_isEnd_1
  rw [isCheck_eq]
  cases (c.Arcs[j].Kind == 4) <;> cases (c.Arcs[j].Kind == 5) <;> simp

theorem port_dir {l : TLibrary} {d : TDesign} (h : designB l d = true) {i : Nat} (hi : i < d.Ports.length) : (gt d.Ports i).Dir = 1 ∨ (gt d.Ports i).Dir = 2 := by
  unfold designB at h
  simp only [Bool.and_eq_true] at h
  have hP := h.2.2.1
  rw [all_gt, allN_iff] at hP
  have := hP i hi
  unfold portB at this
  simp only [Bool.and_eq_true, inI_iff] at this
  omega

def endB (b : TBlock) (p : Tplace) : Bool := bif decide (p.instance_ < 0) then !p.drives else chkB (cellAt b p.instance_) p.pin
def endsL (b : TBlock) : List Int := selL (fun i => endB b (gt (places b.Design) i)) (places b.Design).length

theorem sEnds_ev {b : TBlock} (hok : ok_Block b) (h : blockB b = true) : Ev (fun n => spec_l22Ends n b) (endsL b) := by
  have hd := blockB_des h
  have hl := places_len (designB_small hd)
  have hL : Ev (fun n => spec_l22Ends_L1 b n ([] : List Int) 0) (endsL b, ((places b.Design).length : Int)) := by
    refine sel_loop (Lf := spec_l22Ends_L1 b) (q := fun i => endB b (gt (places b.Design) i)) (len := (places b.Design).length) (by omega) (Ev.succ ?_) (fun j hj t ht X h1 h2 => ?_)
    · simp only [spec_l22Ends_L1]
      exact Ev.bind (l22Count_ev h) (Ev.ff (lt_nat_f (Nat.le_refl _)) .done)
    · simp only [spec_l22Ends_L1, w64_succ (show j < 9223372036854775807 by omega), ht, Option.bind_some]
      refine Ev.bind (l22Count_ev h) (Ev.tt (lt_nat_t hj) (Ev.bind (l05At_ev hok h hj) ?_))
      rcases place_cases hj with ⟨i, k, hi, hk, ej, e⟩ | ⟨i, hi, _, e⟩
      · obtain ⟨⟨c0, c1⟩, hn, hcb⟩ := inst_cell hd hi
        rw [e] at h1 h2 ⊢
        refine Ev.ff (by show decide ((i : Int) < 0) = false; simp) ?_
        have e1 : ∀ n, spec_l22Cell n b (toSp (place1 b.Design i k)).instance_ = some (gt b.Library.Cells (gt b.Design.Instances i).Cell.toNat) := by
          intro n
          unfold place1 toSp
          simp only [spec_l22Cell, idx_gt hi, idx_gi c0 c1, Option.bind_some]
        refine Ev.bind ⟨0, fun n _ => e1 n⟩ (Ev.bind (l22Checked_ev hcb) ?_)
        have eq : endB b (place1 b.Design i k) = chkB (gt b.Library.Cells (gt b.Design.Instances i).Cell.toNat) (toSp (place1 b.Design i k)).pin := by
          unfold endB
          rw [show decide ((place1 b.Design i k).instance_ < 0) = false by show decide ((i : Int) < 0) = false; simp]
          unfold cellAt place1 toSp
          simp only [cond_false, Int.toNat_natCast]
        rw [eq] at h1 h2
        cases hq : chkB (gt b.Library.Cells (gt b.Design.Instances i).Cell.toNat) (toSp (place1 b.Design i k)).pin
        · exact h2 hq
        · exact h1 hq
      · rw [e] at h1 h2 ⊢
        refine Ev.tt rfl ?_
        rw [show (toSp (place2 b.Design i)).pin = (i : Int) from rfl, idx_gt hi]
        simp only [Option.bind_some]
        have eq : endB b (place2 b.Design i) = ((gt b.Design.Ports i).Dir == 2) := by
          show (!((gt b.Design.Ports i).Dir == 1)) = _
          rw [Bool.eq_iff_iff]
          rcases port_dir hd hi with h3 | h3 <;> rw [h3] <;> decide
        rw [eq] at h1 h2
        cases hq : ((gt b.Design.Ports i).Dir == 2)
        · exact h2 hq
        · exact h1 hq
  unfold spec_l22Ends
  exact Ev.bind hL .done

def endsR (b : TBlock) : List Int × Int := bif blockB b then (endsL b, 0) else ([], 1)
theorem sEndPlaces_ev {b : TBlock} (hok : ok_Block b) : Ev (fun n => spec_EndPlaces n b) (endsR b) := by
  unfold spec_EndPlaces endsR
  exact Ev.chk1 (sIsBlock_ev hok) fun h => Ev.bind (sEnds_ev hok h) .done
theorem EndPlaces_ev {b : TBlock} (hok : ok_Block b) : Ev (fun n => impl_EndPlaces n b) (endsR b) := by
  unfold impl_EndPlaces
  refine Ev.bind (b := endsR b) ?_ .done
  unfold impl_placesOf_impl_view_isEnd endsR
  refine Ev.chk1 (IsBlock_ev hok) fun h => ?_
  obtain ⟨ls, lo, de, e⟩ := newView_ev h
  have hd := blockB_des h
  have hl := places_len (designB_small hd)
  refine Ev.bind e ?_
  simp only [Option.bind_some]
  have hL : Ev (fun n => impl_placesOf_impl_view_isEnd_L1 (some ⟨b, places b.Design, ls, lo, de, []⟩) ⟨b, places b.Design, ls, lo, de, []⟩ n ([] : List Int) 0) (endsL b, ((places b.Design).length : Int)) := by
    refine sel_loop (Lf := impl_placesOf_impl_view_isEnd_L1 (some ⟨b, places b.Design, ls, lo, de, []⟩) ⟨b, places b.Design, ls, lo, de, []⟩) (q := fun i => endB b (gt (places b.Design) i)) (len := (places b.Design).length) (by omega) (Ev.succ ?_) (fun j hj t ht X h1 h2 => ?_)
    · simp only [impl_placesOf_impl_view_isEnd_L1]
      exact Ev.ff (lt_nat_f (Nat.le_refl _)) .done
    · simp only [impl_placesOf_impl_view_isEnd_L1, w64_succ (show j < 9223372036854775807 by omega), ht, Option.bind_some, lt_nat_t hj, cond_true, idx_gt hj]
      refine Ev.bind (b := endB b (gt (places b.Design) j)) ?_ ?_
      · unfold impl_view_isEnd endB
        refine Ev.iff (fun _ => .done) (fun h0 => ?_)
        rcases place_cases hj with ⟨i, k, hi, hk, ej, e⟩ | ⟨i, hi, _, e⟩
        · obtain ⟨⟨c0, c1⟩, hn, hcb⟩ := inst_cell hd hi
          rw [e]
          simp only [Option.bind_some]
          have e1 : ∀ n, impl_Block_cellOf n b (place1 b.Design i k).instance_ = some (gt b.Library.Cells (gt b.Design.Instances i).Cell.toNat) := by
            intro n
            unfold place1
            simp only [impl_Block_cellOf, idx_gt hi, idx_gi c0 c1, Option.bind_some]
          refine Ev.bind ⟨0, fun n _ => e1 n⟩ (Ev.last ((chk_ev hcb).cast ?_))
          unfold cellAt place1
          simp only [Int.toNat_natCast]
        · rw [e] at h0
          exact absurd h0 (by show ¬ decide ((-1 : Int) < 0) = false; decide)
      · cases hq : endB b (gt (places b.Design) j)
        · exact h2 hq
        · exact h1 hq
  exact Ev.bind hL .done

theorem law_EndPlaces {b : TBlock} (hb : rng_Block b) : Ev (fun n => laws_FnExactEndPlaces n b) true := by
  unfold laws_FnExactEndPlaces
  obtain ⟨r1, e1, q1⟩ := sz_Block (a := b) (left := 1048576) hb (by omega) (by omega)
  refine Ev.bind e1 ?_
  rcases q1 with q1 | ⟨p1, q1⟩
  · exact Ev.tt (by simpa using q1) .done
  · refine Ev.ff (by simp; omega) ?_
    have wb : w_Block b ≤ 1048576 := by omega
    have hok := okof_Block hb wb
    have hlen : w_Int64S (endsR b).1 ≤ 1048576 := by
      unfold endsR w_Int64S
      cases h : blockB b
      · exact Nat.zero_le _
      · exact selL_small (places_len (designB_small (blockB_des h)))
    obtain ⟨k', x, mk, l1, _⟩ := markBlock_mk (a := b) (k := 1) (by omega) (by omega) wb
    have ee : Ev (fun n => (laws_eqInt64S n (endsR b).1 (endsR b).1).bind fun r => bif (!r) then some true else some ((endsR b).2 != (endsR b).2)) false :=
      Ev.bind (eq_Int64S hlen) (Ev.ff rfl (Ev.now (by simp)))
    have hh := held_ev (k := 1) (m := (endsR b).1.length) (by omega) (by omega) hlen
    refine Ev.bind (to_Block wb) (Ev.bind (sEndPlaces_ev hok) (Ev.bind (to_Block wb) (Ev.bind (EndPlaces_ev hok) (Ev.bind ee (Ev.ff rfl (Ev.bind (to_Block wb) (Ev.bind (eq_Block wb) (Ev.ff rfl (Ev.bind mk ?_)))))))))
    refine Ev.bind (Ev.ff (by simp; omega) ee) (Ev.ff rfl (Ev.bind (markInt_ev (by omega) (by omega) hlen) (Ev.bind hh (Ev.ff (by simp; omega) (Ev.ff not_ne_self (Ev.bind (to_Block wb) (Ev.bind (EndPlaces_ev hok) (Ev.bind ee (Ev.ff rfl (Ev.bind hh (Ev.ff (by simp; omega) (Ev.ff not_ne_self .done))))))))))))
end Go.Fw
