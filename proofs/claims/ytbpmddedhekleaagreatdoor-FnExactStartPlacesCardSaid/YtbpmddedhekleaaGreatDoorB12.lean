/- Plain laws: successors in the data graph; data paths. -/
import Derived.Test.YtbpmddedhekleaaGreatDoorB11
namespace Go.Fw
open Go
set_option maxRecDepth 100000

def clkB (b : TBlock) (p : Tplace) : Bool := bif decide (p.instance_ ≥ 0) then clkAt (cellAt b p.instance_).Pins p.pin else false

theorem isClockPin_eq {b : TBlock} {V : Tview} {n j : Nat} (h : blockB b = true) (hV : V.Block = b) (hj : j < (places b.Design).length) : impl_view_isClockPin n (some V) (gt (places b.Design) j) = some (clkB b (gt (places b.Design) j)) := by
  rcases place_cases hj with ⟨i, k, hi, hk, _, e⟩ | ⟨i, hi, _, e⟩
  · obtain ⟨⟨c0, c1⟩, hn, _⟩ := inst_cell (blockB_des h) hi
    rw [e]
    unfold place1 clkB clkAt cellAt
    simp only [impl_view_isClockPin, show decide ((i : Int) ≥ 0) = true by simp, cond_true, Option.bind_some, hV, idx_gt hi, idx_gi c0 c1, idx_gt (show k < (gt b.Library.Cells (gt b.Design.Instances i).Cell.toNat).Pins.length by omega), Int.toNat_natCast]
  · rw [e]; rfl

theorem l05At_ev {b : TBlock} {j : Nat} (hok : ok_Block b) (h : blockB b = true) (hj : j < (places b.Design).length) : Ev (fun n => spec_l05At n b.Library b.Design (j : Int)) (toSp (gt (places b.Design) j), true) := by
  have hd := blockB_des h
  have hs := designB_small hd
  have hl := places_len hs
  unfold spec_l05At
  refine Ev.bind (sIsDesign_ev hok.Library hok.Design) (Ev.ff (by rw [hd]; rfl) (Ev.bind (sPlaces_ev hs) ?_))
  simp only [l01In_eq, Option.bind_some, List.length_map, w64_pred (show (places b.Design).length ≤ 9223372036854775807 by omega)]
  rw [show inI (j : Int) 0 (((places b.Design).length : Int) - 1) = true from inI_iff.2 ⟨by omega, by omega⟩]
  simp only [Bool.not_true, cond_false]
  rw [idx_gt (show j < ((places b.Design).map toSp).length by simpa using hj), gt_map hj]
  exact .done

theorem l22Clock_ev {b : TBlock} {j : Nat} (hok : ok_Block b) (h : blockB b = true) (hj : j < (places b.Design).length) : Ev (fun n => spec_l22Clock n b (j : Int)) (clkB b (gt (places b.Design) j)) := by
  unfold spec_l22Clock
  refine Ev.bind (l05At_ev hok h hj) ?_
  rcases place_cases hj with ⟨i, k, hi, hk, _, e⟩ | ⟨i, hi, _, e⟩
  · obtain ⟨⟨c0, c1⟩, hn, _⟩ := inst_cell (blockB_des h) hi
    rw [e]
    unfold place1 clkB clkAt cellAt toSp
    simp only [spec_l22Cell, show decide ((i : Int) ≥ 0) = true by simp, cond_true, Option.bind_some, idx_gt hi, idx_gi c0 c1, idx_gt (show k < (gt b.Library.Cells (gt b.Design.Instances i).Cell.toNat).Pins.length by omega), Int.toNat_natCast]
    exact .done
  · rw [e]; exact .done

/-! ### Successors -/

/-! ### Data paths -/

end Go.Fw
